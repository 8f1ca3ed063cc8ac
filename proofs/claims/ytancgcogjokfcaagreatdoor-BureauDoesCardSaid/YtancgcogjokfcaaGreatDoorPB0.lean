/-
  Chapter 43: BureauDoes: the statement, and its card.
  CONDITIONS: none beyond those of the rows.
-/
import Derived.Test.YtancgcogjokfcaaGreatDoorCards
import Derived.Test.YtancgcogjokfcaaGreatDoorTie
import Derived.Test.YtancgcogjokfcaaGreatDoorPB8
namespace Go.Proofs.YtancgcogjokfcaaGreatDoor
open Go.AM Go.AM.Sym Go.RowKit Go.Shelf
set_option maxRecDepth 100000
set_option linter.unusedVariables false
set_option linter.unusedSimpArgs false
set_option maxHeartbeats 4000000

theorem law_run (H : NB) (vs : List Value) (x : Nv6 [.slice Mr]) (h : Ner [.slice Mr] H x vs) : NP (@Fn.E Nf1) false H.length 7 vs H fun v _ => v = .bool true := by
  obtain ⟨v, r, rfl, h1, h2⟩ := h
  have h2 : r = [] := h2
  subst h2
  obtain ⟨p, k, L, rfl, hs, hL, hn, ho⟩ := No8 h1
  exact @Fn.BureauDoes_ok _ _ Nf1 rfl _ _ _ _ (Nat.le_refl _) hs hL hn ho fun _ => rfl
theorem Nxs : Tryz.f7.resultTypes = #[4] := by kernel_rfl
theorem Nxr : Tryz.f7.params.toList.mapM (Y1 Tryz.prog 9) = some [.slice Mr] := by kernel_rfl
theorem Nvt : ∀ t ∈ Tryz.f7.params.toList, Tryz.prog.readableRec t = true ∧ t < Tryz.prog.types.size := of_decide_eq_true (by kernel_rfl)
theorem Nxq (os : Os) (H : Type) (enc : TypeId × Value → H) : ∃ (w : World) (tape : Tape) (i : Input), w.os = os ∧ (w.forCall tape i).Shaped Tryz.prog ∧ i.vars = [] ∧ Input.okWide Tryz.prog (w.forCall tape i) .any w.heap.size 7 i ∧
      ((Rows.bureauDoesSpec.pre enc Tryz.prog Tryz.f7 [] false (w.forCall tape i).memory i.args ∧ laidMetH Tryz.prog Nam (w.forCall tape i).memory) ∧ sizedMet enc Tryz.prog Tryz.f7 (OpenSpec.ofChange Rows.bureauDoesSpec) false (w.forCall tape i).memory i.args) ∧ ({} : Assume).holds Tryz.prog (lone (Frame.enter Tryz.prog 7 i.args .normal) [] (w.forCall tape i)) :=
  ChangeSpec.witness_at (enc := enc) (C := Tryz.checked) (os := os) (X := fun w _ => laidMetH Tryz.prog Nam w) false (Nc0 os) #[.slice none 0 0] 8 rfl (by kernel_rfl) (by kernel_rfl) (by kernel_rfl) (by kernel_rfl) (by kernel_rfl) (Nb6 os _)
theorem law_lifted (os : Os) (started : os.Started) (H : Type) (enc : TypeId × Value → H) :
    ReturnsInHanded {} Tryz.checked os 7 .any (fun w args => (Rows.bureauDoesSpec.pre enc Tryz.prog Tryz.f7 [] false w args ∧ laidMetH Tryz.prog Nam w) ∧ sizedMet enc Tryz.prog Tryz.f7 (OpenSpec.ofChange Rows.bureauDoesSpec) false w args) (Rows.bureauDoesSpec.post enc Tryz.prog Tryz.f7 false true false false) :=
  Nqt (C := Tryz.checked) (E := @Fn.E Nf1) (tys := [.slice Mr]) own started (by kernel_rfl) Tryz.func7 rfl
    (fun ds hd => match ds, hd with | [d], _ => rfl) Nxs Tryz.underlying4 Nxr Nvt laidOut Nxh (Nxq os H enc) law_run Ntq
theorem Nkk : Tryz.prog.funcNamed "letterbag/letterbaglaw43.BureauDoes" = some 7 := by kernel_rfl
theorem Ntw : joinedFacts Tryz.prog 7 Tryz.f7 Rows.bureauDoesSpec Rows.bureauDoesRow = true := by kernel_rfl
theorem Nvv : Tryz.f7.isInstance Tryz.prog Rows.bureauDoesRow.origin Rows.bureauDoesRow.targs := of_decide_eq_true (by kernel_rfl)
theorem Nvs : Tryz.f7.isWrapper Tryz.prog Rows.bureauDoesRow.wrapper Rows.bureauDoesRow.mainSum := by unfold Func.isWrapper; first | (rw [if_pos (by decide +kernel)]; kernel_rfl) | (rw [if_neg (by decide +kernel)]; exact ⟨rfl, rfl⟩)
theorem row_holds : Rows.BureauDoesSaid :=
  OpenClaim.holds_of_wide 7 Tryz.f7 rfl rfl rfl rfl rfl rfl rfl ⟨rfl, rfl, rfl, rfl, rfl⟩ rfl rfl rfl rfl rfl Nkk Tryz.func7 Ntw Nvv Nvs
    (fun os started H enc _ => law_lifted os started H enc)
theorem Nyt : Rows.bureauDoesRow.wfByText (OpenSpec.ofChange Rows.bureauDoesSpec) = true := by kernel_rfl
theorem Nvu : Tryz.prog.mainIs = some (true, "f68b62229a9602ece8cf594289ede6e5acddaa295c34b5ab9f443657b56386d4".toList) := by kernel_rfl
theorem Ntv : true = Tryz.prog.looks [] := by kernel_rfl
theorem Ntu : Tryz.f7.params.toList.all (fun t => !Tryz.prog.wantsStandIn t) = true := by kernel_rfl
theorem Nvw : false = Rows.bureauDoesRow.goesBy Tryz.prog := by kernel_rfl
theorem bureauDoes_holds : Rows.BureauDoesCardSaid :=
  Claim7.holds_tied_plain_at .later [] [.data, .data, .data, .sentinel, .sentinel] true (true, "f68b62229a9602ece8cf594289ede6e5acddaa295c34b5ab9f443657b56386d4") true
    row_holds (fun _ h => by cases h) Nyt (fun _ h => by cases h) bureauDoes_row_tie rfl ⟨rfl, rfl⟩ Nvu rfl
    (fun f fn hf hfn => by
      obtain rfl : f = 7 := (Option.some.inj (Nkk.symm.trans hf)).symm
      obtain rfl : fn = Tryz.f7 := (Option.some.inj (Tryz.func7.symm.trans hfn)).symm
      exact ⟨Ntv, fun j t ht => by
        have := List.all_eq_true.1 Ntu t (by rw [Array.mem_toList_iff]; exact Array.mem_of_getElem? ht)
        have q : Tryz.prog.wantsStandIn t = false := by simpa using this
        exact q⟩)
    Nvw
end Go.Proofs.YtancgcogjokfcaaGreatDoor
