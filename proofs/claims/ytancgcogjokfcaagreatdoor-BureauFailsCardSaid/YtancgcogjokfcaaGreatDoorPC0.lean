/-
  Chapter 43: BureauFails: the statement, and its card.
  CONDITIONS: none beyond those of the rows.
-/
import Derived.Test.YtancgcogjokfcaaGreatDoorCards
import Derived.Test.YtancgcogjokfcaaGreatDoorTie
import Derived.Test.YtancgcogjokfcaaGreatDoorPC8
namespace Go.Proofs.YtancgcogjokfcaaGreatDoor
open Go.AM Go.AM.Sym Go.RowKit Go.Shelf
set_option maxRecDepth 100000
set_option linter.unusedVariables false
set_option linter.unusedSimpArgs false
set_option maxHeartbeats 4000000

theorem law_run (H : NB) (vs : List Value) (x : Nwb [.int .u8, .slice Mt]) (h : Nex [.int .u8, .slice Mt] H x vs) : NP (@Fn.E Nf5) false H.length 6 vs H fun v _ => v = .bool true := by
  obtain ⟨v, r, rfl, h1, w, r2, rfl, h2, h3⟩ := h
  have h3 : r2 = [] := h3
  subst h3
  obtain ⟨rfl, h4⟩ := Nvd h1
  obtain ⟨p, k, L, rfl, hs, hL, hn, _⟩ := No9 h2
  exact @Fn.BureauFails_ok _ _ _ Nf5 rfl _ _ _ _ h4.1 h4.2 (Nat.le_refl _) hs hL hn fun _ => rfl
theorem Nxy : Tryz.f6.resultTypes = #[4] := by kernel_rfl
theorem Nxx : Tryz.f6.params.toList.mapM (Y1 Tryz.prog 9) = some [.int .u8, .slice Mt] := by kernel_rfl
theorem Nvz : ∀ t ∈ Tryz.f6.params.toList, Tryz.prog.readableRec t = true ∧ t < Tryz.prog.types.size := of_decide_eq_true (by kernel_rfl)
theorem Nxw (os : Os) (H : Type) (enc : TypeId × Value → H) : ∃ (w : World) (tape : Tape) (i : Input), w.os = os ∧ (w.forCall tape i).Shaped Tryz.prog ∧ i.vars = [] ∧ Input.okWide Tryz.prog (w.forCall tape i) .any w.heap.size 6 i ∧
      ((Rows.bureauFailsSpec.pre enc Tryz.prog Tryz.f6 [] false (w.forCall tape i).memory i.args ∧ laidMetH Tryz.prog Naq (w.forCall tape i).memory) ∧ sizedMet enc Tryz.prog Tryz.f6 (OpenSpec.ofChange Rows.bureauFailsSpec) false (w.forCall tape i).memory i.args) ∧ ({} : Assume).holds Tryz.prog (lone (Frame.enter Tryz.prog 6 i.args .normal) [] (w.forCall tape i)) :=
  ChangeSpec.witness_at (enc := enc) (C := Tryz.checked) (os := os) (X := fun w _ => laidMetH Tryz.prog Naq w) false (Nc4 os) #[.int .u8 0, .slice none 0 0] 8 rfl (by kernel_rfl) (by kernel_rfl) (by kernel_rfl) (by kernel_rfl) (by kernel_rfl) (Ncb os _)
theorem law_lifted (os : Os) (started : os.Started) (H : Type) (enc : TypeId × Value → H) :
    ReturnsInHanded {} Tryz.checked os 6 .any (fun w args => (Rows.bureauFailsSpec.pre enc Tryz.prog Tryz.f6 [] false w args ∧ laidMetH Tryz.prog Naq w) ∧ sizedMet enc Tryz.prog Tryz.f6 (OpenSpec.ofChange Rows.bureauFailsSpec) false w args) (Rows.bureauFailsSpec.post enc Tryz.prog Tryz.f6 false true false false) :=
  Nqu (C := Tryz.checked) (E := @Fn.E Nf5) (tys := [.int .u8, .slice Mt]) own started (by kernel_rfl) Tryz.func6 rfl
    (fun ds hd => match ds, hd with | [d1, d2], _ => rfl) Nxy Tryz.underlying4 Nxx Nvz laidOut Nxn (Nxw os H enc) law_run Ntu
theorem Nkj : Tryz.prog.funcNamed "letterbag/letterbaglaw43.BureauFails" = some 6 := by kernel_rfl
theorem Nt0 : joinedFacts Tryz.prog 6 Tryz.f6 Rows.bureauFailsSpec Rows.bureauFailsRow = true := by kernel_rfl
theorem Nv1 : Tryz.f6.isInstance Tryz.prog Rows.bureauFailsRow.origin Rows.bureauFailsRow.targs := of_decide_eq_true (by kernel_rfl)
theorem Nvy : Tryz.f6.isWrapper Tryz.prog Rows.bureauFailsRow.wrapper Rows.bureauFailsRow.mainSum := by unfold Func.isWrapper; first | (rw [if_pos (by decide +kernel)]; kernel_rfl) | (rw [if_neg (by decide +kernel)]; exact ⟨rfl, rfl⟩)
theorem row_holds : Rows.BureauFailsSaid :=
  OpenClaim.holds_of_wide 6 Tryz.f6 rfl rfl rfl rfl rfl rfl rfl ⟨rfl, rfl, rfl, rfl, rfl⟩ rfl rfl rfl rfl rfl Nkj Tryz.func6 Nt0 Nv1 Nvy
    (fun os started H enc _ => law_lifted os started H enc)
theorem Ny0 : Rows.bureauFailsRow.wfByText (OpenSpec.ofChange Rows.bureauFailsSpec) = true := by kernel_rfl
theorem Nv0 : Tryz.prog.mainIs = some (true, "f68b62229a9602ece8cf594289ede6e5acddaa295c34b5ab9f443657b56386d4".toList) := by kernel_rfl
theorem Ntz : true = Tryz.prog.looks [] := by kernel_rfl
theorem Nty : Tryz.f6.params.toList.all (fun t => !Tryz.prog.wantsStandIn t) = true := by kernel_rfl
theorem Nv2 : false = Rows.bureauFailsRow.goesBy Tryz.prog := by kernel_rfl
theorem bureauFails_holds : Rows.BureauFailsCardSaid :=
  Claim7.holds_tied_plain_at .later [] [.data, .data, .data, .sentinel, .sentinel] true (true, "f68b62229a9602ece8cf594289ede6e5acddaa295c34b5ab9f443657b56386d4") true
    row_holds (fun _ h => by cases h) Ny0 (fun _ h => by cases h) bureauFails_row_tie rfl ⟨rfl, rfl⟩ Nv0 rfl
    (fun f fn hf hfn => by
      obtain rfl : f = 6 := (Option.some.inj (Nkj.symm.trans hf)).symm
      obtain rfl : fn = Tryz.f6 := (Option.some.inj (Tryz.func6.symm.trans hfn)).symm
      exact ⟨Ntz, fun j t ht => by
        have := List.all_eq_true.1 Nty t (by rw [Array.mem_toList_iff]; exact Array.mem_of_getElem? ht)
        have q : Tryz.prog.wantsStandIn t = false := by simpa using this
        exact q⟩)
    Nv2
end Go.Proofs.YtancgcogjokfcaaGreatDoor
