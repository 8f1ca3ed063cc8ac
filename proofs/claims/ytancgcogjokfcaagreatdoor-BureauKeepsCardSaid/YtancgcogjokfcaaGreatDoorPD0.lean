/-
  Chapter 43: BureauKeeps: the statement, and its card.
  CONDITIONS: none beyond those of the rows.
-/
import Derived.Test.YtancgcogjokfcaaGreatDoorCards
import Derived.Test.YtancgcogjokfcaaGreatDoorTie
import Derived.Test.YtancgcogjokfcaaGreatDoorPD8
namespace Go.Proofs.YtancgcogjokfcaaGreatDoor
open Go.AM Go.AM.Sym Go.RowKit Go.Shelf
set_option maxRecDepth 100000
set_option linter.unusedVariables false
set_option linter.unusedSimpArgs false
set_option maxHeartbeats 4000000

theorem law_run (H : NB) (vs : List Value) (x : Nv0 [.int .u8, .slice Mq]) (h : Ney [.int .u8, .slice Mq] H x vs) : NN (@Fn.E Nf5) false H.length 5 vs H fun v _ => v = .bool true := by
  obtain ⟨v, r, rfl, h1, w, r2, rfl, h2, h3⟩ := h
  have h3 : r2 = [] := h3
  subst h3
  obtain ⟨rfl, h4⟩ := Nu2 h1
  obtain ⟨p, k, L, rfl, hs, hL, hn, _⟩ := No1 h2
  exact @Fn.BureauKeeps_ok _ _ _ Nf5 rfl _ _ _ _ h4.1 h4.2 (Nat.le_refl _) hs hL hn fun _ => rfl
theorem Nxm : Tryz.f5.resultTypes = #[4] := by kernel_rfl
theorem Nxl : Tryz.f5.params.toList.mapM (Yw Tryz.prog 9) = some [.int .u8, .slice Mq] := by kernel_rfl
theorem Nvo : ∀ t ∈ Tryz.f5.params.toList, Tryz.prog.readableRec t = true ∧ t < Tryz.prog.types.size := of_decide_eq_true (by kernel_rfl)
theorem Nxk (os : Os) (H : Type) (enc : TypeId × Value → H) : ∃ (w : World) (tape : Tape) (i : Input), w.os = os ∧ (w.forCall tape i).Shaped Tryz.prog ∧ i.vars = [] ∧ Input.okWide Tryz.prog (w.forCall tape i) .any w.heap.size 5 i ∧
      ((Rows.bureauKeepsSpec.pre enc Tryz.prog Tryz.f5 [] false (w.forCall tape i).memory i.args ∧ laidMetH Tryz.prog Nam (w.forCall tape i).memory) ∧ sizedMet enc Tryz.prog Tryz.f5 (OpenSpec.ofChange Rows.bureauKeepsSpec) false (w.forCall tape i).memory i.args) ∧ ({} : Assume).holds Tryz.prog (lone (Frame.enter Tryz.prog 5 i.args .normal) [] (w.forCall tape i)) :=
  ChangeSpec.witness_at (enc := enc) (C := Tryz.checked) (os := os) (X := fun w _ => laidMetH Tryz.prog Nam w) false (Nc3 os) #[.int .u8 0, .slice none 0 0] 8 rfl (by kernel_rfl) (by kernel_rfl) (by kernel_rfl) (by kernel_rfl) (by kernel_rfl) (Nca os _)
theorem law_lifted (os : Os) (started : os.Started) (H : Type) (enc : TypeId × Value → H) :
    ReturnsInHanded {} Tryz.checked os 5 .any (fun w args => (Rows.bureauKeepsSpec.pre enc Tryz.prog Tryz.f5 [] false w args ∧ laidMetH Tryz.prog Nam w) ∧ sizedMet enc Tryz.prog Tryz.f5 (OpenSpec.ofChange Rows.bureauKeepsSpec) false w args) (Rows.bureauKeepsSpec.post enc Tryz.prog Tryz.f5 false true false false) :=
  Nqm (C := Tryz.checked) (E := @Fn.E Nf5) (tys := [.int .u8, .slice Mq]) own started (by kernel_rfl) Tryz.func5 rfl
    (fun ds hd => match ds, hd with | [d1, d2], _ => rfl) Nxm Tryz.underlying4 Nxl Nvo laidOut Nxa (Nxk os H enc) law_run Ntl
theorem Nkf : Tryz.prog.funcNamed "letterbag/letterbaglaw43.BureauKeeps" = some 5 := by kernel_rfl
theorem Ntr : joinedFacts Tryz.prog 5 Tryz.f5 Rows.bureauKeepsSpec Rows.bureauKeepsRow = true := by kernel_rfl
theorem Nvq : Tryz.f5.isInstance Tryz.prog Rows.bureauKeepsRow.origin Rows.bureauKeepsRow.targs := of_decide_eq_true (by kernel_rfl)
theorem Nvn : Tryz.f5.isWrapper Tryz.prog Rows.bureauKeepsRow.wrapper Rows.bureauKeepsRow.mainSum := by unfold Func.isWrapper; first | (rw [if_pos (by decide +kernel)]; kernel_rfl) | (rw [if_neg (by decide +kernel)]; exact ⟨rfl, rfl⟩)
theorem row_holds : Rows.BureauKeepsSaid :=
  OpenClaim.holds_of_wide 5 Tryz.f5 rfl rfl rfl rfl rfl rfl rfl ⟨rfl, rfl, rfl, rfl, rfl⟩ rfl rfl rfl rfl rfl Nkf Tryz.func5 Ntr Nvq Nvn
    (fun os started H enc _ => law_lifted os started H enc)
theorem Nym : Rows.bureauKeepsRow.wfByText (OpenSpec.ofChange Rows.bureauKeepsSpec) = true := by kernel_rfl
theorem Nvp : Tryz.prog.mainIs = some (true, "f68b62229a9602ece8cf594289ede6e5acddaa295c34b5ab9f443657b56386d4".toList) := by kernel_rfl
theorem Ntq : true = Tryz.prog.looks [] := by kernel_rfl
theorem Ntp : Tryz.f5.params.toList.all (fun t => !Tryz.prog.wantsStandIn t) = true := by kernel_rfl
theorem Nvr : false = Rows.bureauKeepsRow.goesBy Tryz.prog := by kernel_rfl
theorem bureauKeeps_holds : Rows.BureauKeepsCardSaid :=
  Claim7.holds_tied_plain_at .later [] [.data, .data, .data, .sentinel, .sentinel] true (true, "f68b62229a9602ece8cf594289ede6e5acddaa295c34b5ab9f443657b56386d4") true
    row_holds (fun _ h => by cases h) Nym (fun _ h => by cases h) bureauKeeps_row_tie rfl ⟨rfl, rfl⟩ Nvp rfl
    (fun f fn hf hfn => by
      obtain rfl : f = 5 := (Option.some.inj (Nkf.symm.trans hf)).symm
      obtain rfl : fn = Tryz.f5 := (Option.some.inj (Tryz.func5.symm.trans hfn)).symm
      exact ⟨Ntq, fun j t ht => by
        have := List.all_eq_true.1 Ntp t (by rw [Array.mem_toList_iff]; exact Array.mem_of_getElem? ht)
        have q : Tryz.prog.wantsStandIn t = false := by simpa using this
        exact q⟩)
    Nvr
end Go.Proofs.YtancgcogjokfcaaGreatDoor
