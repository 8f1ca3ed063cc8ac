/-
  Chapter 43: BureauSums: the statement, and its card.
  CONDITIONS: none beyond those of the rows.
-/
import Derived.Test.YtancgcogjokfcaaGreatDoorCards
import Derived.Test.YtancgcogjokfcaaGreatDoorTie
import Derived.Test.YtancgcogjokfcaaGreatDoorPA8
namespace Go.Proofs.YtancgcogjokfcaaGreatDoor
open Go.AM Go.AM.Sym Go.RowKit Go.Shelf
set_option maxRecDepth 100000
set_option linter.unusedVariables false
set_option linter.unusedSimpArgs false
set_option maxHeartbeats 4000000

theorem law_run (H : NB) (vs : List Value) (x : Nwe [.slice Mt]) (h : Ne6 [.slice Mt] H x vs) : NQ (@Fn.E Ngf) false H.length 3 vs H fun v _ => v = .bool true := by
  obtain ⟨v, r, rfl, h1, h2⟩ := h
  have h2 : r = [] := h2
  subst h2
  obtain ⟨p, k, L, rfl, hs, hL, hn, _⟩ := Npa h1
  exact @Fn.BureauSums_ok Ngf rfl _ _ _ _ _ _ (Nat.le_refl _) hs hL hn fun _ => rfl
theorem Nxv : Tryz.f3.resultTypes = #[4] := by kernel_rfl
theorem Nxu : Tryz.f3.params.toList.mapM (Yx Tryz.prog 9) = some [.slice Mt] := by kernel_rfl
theorem Nv2 : ∀ t ∈ Tryz.f3.params.toList, Tryz.prog.readableRec t = true ∧ t < Tryz.prog.types.size := of_decide_eq_true (by kernel_rfl)
theorem Nxt (os : Os) (H : Type) (enc : TypeId × Value → H) : ∃ (w : World) (tape : Tape) (i : Input), w.os = os ∧ (w.forCall tape i).Shaped Tryz.prog ∧ i.vars = [] ∧ Input.okWide Tryz.prog (w.forCall tape i) .any w.heap.size 3 i ∧
      ((Rows.bureauSumsSpec.pre enc Tryz.prog Tryz.f3 [] false (w.forCall tape i).memory i.args ∧ laidMetH Tryz.prog Naq (w.forCall tape i).memory) ∧ sizedMet enc Tryz.prog Tryz.f3 (OpenSpec.ofChange Rows.bureauSumsSpec) false (w.forCall tape i).memory i.args) ∧ ({} : Assume).holds Tryz.prog (lone (Frame.enter Tryz.prog 3 i.args .normal) [] (w.forCall tape i)) :=
  ChangeSpec.witness_at (enc := enc) (C := Tryz.checked) (os := os) (X := fun w _ => laidMetH Tryz.prog Naq w) false (Nc8 os) #[.slice none 0 0] 8 rfl (by kernel_rfl) (by kernel_rfl) (by kernel_rfl) (by kernel_rfl) (by kernel_rfl) (Ncf os _)
theorem law_lifted (os : Os) (started : os.Started) (H : Type) (enc : TypeId × Value → H) :
    ReturnsInHanded {} Tryz.checked os 3 .any (fun w args => (Rows.bureauSumsSpec.pre enc Tryz.prog Tryz.f3 [] false w args ∧ laidMetH Tryz.prog Naq w) ∧ sizedMet enc Tryz.prog Tryz.f3 (OpenSpec.ofChange Rows.bureauSumsSpec) false w args) (Rows.bureauSumsSpec.post enc Tryz.prog Tryz.f3 false true false false) :=
  Nqv (C := Tryz.checked) (E := @Fn.E Ngf) (tys := [.slice Mt]) own started (by kernel_rfl) Tryz.func3 rfl
    (fun ds hd => match ds, hd with | [d], _ => rfl) Nxv Tryz.underlying4 Nxu Nv2 laidOut Nxl (Nxt os H enc) law_run Ntx
theorem Nks : Tryz.prog.funcNamed "letterbag/letterbaglaw43.BureauSums" = some 3 := by kernel_rfl
theorem Nt3 : joinedFacts Tryz.prog 3 Tryz.f3 Rows.bureauSumsSpec Rows.bureauSumsRow = true := by kernel_rfl
theorem Nv4 : Tryz.f3.isInstance Tryz.prog Rows.bureauSumsRow.origin Rows.bureauSumsRow.targs := of_decide_eq_true (by kernel_rfl)
theorem Nv1 : Tryz.f3.isWrapper Tryz.prog Rows.bureauSumsRow.wrapper Rows.bureauSumsRow.mainSum := by unfold Func.isWrapper; first | (rw [if_pos (by decide +kernel)]; kernel_rfl) | (rw [if_neg (by decide +kernel)]; exact ⟨rfl, rfl⟩)
theorem row_holds : Rows.BureauSumsSaid :=
  OpenClaim.holds_of_wide 3 Tryz.f3 rfl rfl rfl rfl rfl rfl rfl ⟨rfl, rfl, rfl, rfl, rfl⟩ rfl rfl rfl rfl rfl Nks Tryz.func3 Nt3 Nv4 Nv1
    (fun os started H enc _ => law_lifted os started H enc)
theorem Nyv : Rows.bureauSumsRow.wfByText (OpenSpec.ofChange Rows.bureauSumsSpec) = true := by kernel_rfl
theorem Nv3 : Tryz.prog.mainIs = some (true, "f68b62229a9602ece8cf594289ede6e5acddaa295c34b5ab9f443657b56386d4".toList) := by kernel_rfl
theorem Nt2 : true = Tryz.prog.looks [] := by kernel_rfl
theorem Nt1 : Tryz.f3.params.toList.all (fun t => !Tryz.prog.wantsStandIn t) = true := by kernel_rfl
theorem Nv5 : false = Rows.bureauSumsRow.goesBy Tryz.prog := by kernel_rfl
theorem bureauSums_holds : Rows.BureauSumsCardSaid :=
  Claim7.holds_tied_plain_at .later [] [.data, .data, .data, .sentinel, .sentinel] true (true, "f68b62229a9602ece8cf594289ede6e5acddaa295c34b5ab9f443657b56386d4") true
    row_holds (fun _ h => by cases h) Nyv (fun _ h => by cases h) bureauSums_row_tie rfl ⟨rfl, rfl⟩ Nv3 rfl
    (fun f fn hf hfn => by
      obtain rfl : f = 3 := (Option.some.inj (Nks.symm.trans hf)).symm
      obtain rfl : fn = Tryz.f3 := (Option.some.inj (Tryz.func3.symm.trans hfn)).symm
      exact ⟨Nt2, fun j t ht => by
        have := List.all_eq_true.1 Nt1 t (by rw [Array.mem_toList_iff]; exact Array.mem_of_getElem? ht)
        have q : Tryz.prog.wantsStandIn t = false := by simpa using this
        exact q⟩)
    Nv5
end Go.Proofs.YtancgcogjokfcaaGreatDoor
