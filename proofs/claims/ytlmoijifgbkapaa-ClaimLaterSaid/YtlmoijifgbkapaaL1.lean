/-
  Chapter 40: the tie of the abstract machine to the program, with awake's run; the statements.
  CONDITIONS: none beyond those of the rows.
-/
import Derived.Test.YtlmoijifgbkapaaRows
import Derived.Test.YtlmoijifgbkapaaEnv
import Derived.Test.YtlmoijifgbkapaaAm28
import Derived.Test.YtlmoijifgbkapaaC4
namespace Go.Proofs.Ytlmoijifgbkapaa
open Go.AM Go.RowKit
set_option maxRecDepth 100000
set_option linter.unusedVariables false
set_option linter.unusedSimpArgs false
set_option maxHeartbeats 4000000

theorem awake_run : ∃ n, aCall Fn.E0 n false 0 10 [] [] = some (.bool true, []) := ⟨1000, by kernel_rfl⟩
theorem awake_calls (w : World) : Calls Try.prog 10 #[] w fun e w' => e = .returned (.bool true) ∧ Below w.heap.size w w' := by
  obtain ⟨n, h⟩ := awake_run
  refine ((callOk Fn.ok0 n).calls _ _ _ _ _ _ _ h (Nat.le_refl _) _ _ w [] (Inv.nil w) LRel.nil).mono fun e w' hp => ?_
  obtain ⟨v', σ', rfl, hv, _, hst, _⟩ := hp
  rw [hv.bool_left]
  exact ⟨rfl, hst.os, hst.tape, hst.output, hst.size, fun k hk => hst.block k (by omega)⟩
theorem fn10 : ∃ fn, Try.prog.funcs[10]? = some fn ∧ fn.body.isSome = true ∧ (fn.name == "runtime.NumGoroutine") = false := by
  obtain ⟨n, h⟩ := awake_run
  exact (callOk Fn.ok0 n).fn _ _ _ _ _ _ _ h
theorem okE : EnvOk Try.prog Fn.E := by
  have key : ∀ g xs v, Fn.E.orc g xs = some v → g = 10 ∧ xs = [] ∧ v = .bool true := by
    intro g xs v h
    simp only [Fn.E, Fn.orc] at h
    split at h
    · rename_i hc; cases h; exact ⟨hc.1, hc.2, rfl⟩
    · cases h
  refine ⟨Fn.tr_ok, fun g xs v h => ?_, fun g xs v h w => ?_, fun g xs v h σ => ?_, Fn.ok0.mixed⟩
  · obtain ⟨rfl, rfl, rfl⟩ := key g xs v h; exact fn10
  · obtain ⟨rfl, rfl, rfl⟩ := key g xs v h; exact awake_calls w
  · obtain ⟨rfl, rfl, rfl⟩ := key g xs v h; exact .atom rfl
theorem own : ownKnob Try.prog.godebug = none := by kernel_rfl
theorem laidOut : laidOutB Try.prog = true := by kernel_rfl

/-- The type of standards. -/
abbrev tStd : Ty := .pair (.int .u8) (.pair (.int .i64) (.pair (.int .i64) (.pair (.int .i64) .nil)))
def toStd (x : tStd.den) : Fn.Std := ⟨x.1, x.2.1, x.2.2.1, x.2.2.2.1⟩
theorem std_enc (H : Heap) (x : tStd.den) (c : List Value) (h : Rep tStd H x c) : c = Fn.encS (toStd x) := by
  obtain ⟨c1, r1, rfl, h1, c2, r2, rfl, h2, c3, r3, rfl, h3, c4, r4, rfl, h4, h5⟩ := h
  simp only [Rep] at h1 h2 h3 h4 h5
  rw [h1.1, h2.1, h3.1, h4.1, h5]
  rfl
theorem std_pos (H : Heap) (x : tStd.den) (c : List Value) (h : Rep tStd H x c) : 0 ≤ (toStd x).cls := by
  obtain ⟨c1, r1, rfl, h1, _⟩ := h
  exact h1.2.1
theorem stds {H : Heap} {l : List tStd.den} {v : Value} (h : RepV (.slice tStd) H l v) : ∃ p cap, v = .slice p (l.map toStd).length cap ∧ Sl H Fn.encS 4 p (l.map toStd) ∧ (∀ x ∈ l.map toStd, 0 ≤ x.cls) ∧ l.length < 2 ^ 63 := by
  unfold RepV at h
  rw [if_neg (by decide)] at h
  obtain ⟨p, cap, e, h1, h2⟩ := Rep.sl toStd Fn.encS std_enc h
  cases e
  refine ⟨p, cap, rfl, h1, fun x hx => ?_, h2⟩
  obtain ⟨y, hy, rfl⟩ := List.mem_map.1 hx
  obtain ⟨c, hc⟩ := Rep.slice_mem h y hy
  exact std_pos H y c hc
theorem int_arg {k : IntKind} {H : Heap} {n : Int} {v : Value} (h : RepV (.int k) H n v) : v = .int k n ∧ k.min ≤ n ∧ n ≤ k.max := by
  unfold RepV at h
  rw [if_neg (by simp [isRow])] at h
  obtain ⟨e, h⟩ := h
  cases e
  exact ⟨rfl, h⟩

theorem promise_run (H : Heap) (vs : List Value) (x : dens [.slice tStd, .int .u8, .int .i64, .int .i64, .int .i64]) (h : RepAll [.slice tStd, .int .u8, .int .i64, .int .i64, .int .i64] H x vs) : CallR Fn.E false H.length 3 vs H fun v _ => v = .bool true := by
  obtain ⟨v0, _, rfl, h0, v1, _, rfl, h1, v2, _, rfl, h2, v3, _, rfl, h3, v4, _, rfl, h4, rfl⟩ := h
  obtain ⟨p, cap, rfl, hs, hu, _⟩ := stds h0
  obtain ⟨rfl, _⟩ := int_arg h1
  obtain ⟨rfl, _⟩ := int_arg h2
  obtain ⟨rfl, _⟩ := int_arg h3
  obtain ⟨rfl, _⟩ := int_arg h4
  rw [Fn.ClaimPromise_ok hs hu]

theorem promise_lifted (os : Os) (started : os.Started) (H : Type) (enc : TypeId × Value → H) :
    ReturnsInHanded {} Try.checked os 3 .any (Rows.claimPromiseSpec.pre6 enc Try.prog Try.f3 Rows.claimPromiseRow.domain false) (Rows.claimPromiseSpec.post enc Try.prog Try.f3 false true false false) :=
  law_returns (C := Try.checked) (E := Fn.E) (tys := [.slice tStd, .int .u8, .int .i64, .int .i64, .int .i64]) own started (by kernel_rfl) Try.func3 rfl
    (fun ds hd => match ds, hd with | [_, _, _, _, _], _ => rfl) rfl (by kernel_rfl) (by kernel_rfl) (of_decide_eq_true (by kernel_rfl)) laidOut okE
    (ChangeSpec.witness6 (enc := enc) (C := Try.checked) false ⟨#[], #[.slice none 0 0, .int .u8 0, .int .i64 0, .int .i64 0, .int .i64 0], []⟩ 8 (by kernel_rfl) (by kernel_rfl) (by kernel_rfl) (by kernel_rfl)) promise_run

theorem claimPromise_holds : Rows.ClaimPromiseSaid :=
  OpenClaim.holds_of_wide 3 Try.f3 rfl rfl rfl rfl rfl rfl rfl ⟨rfl, rfl, rfl, rfl, rfl⟩ rfl rfl rfl rfl rfl (by kernel_rfl) Try.func3 (by kernel_rfl)
    (of_decide_eq_true (by kernel_rfl)) (by unfold Func.isWrapper; first | (rw [if_pos (by decide +kernel)]; kernel_rfl) | (rw [if_neg (by decide +kernel)]; exact ⟨rfl, rfl⟩))
    (fun os started H enc _ => promise_lifted os started H enc)

theorem days_run (H : Heap) (vs : List Value) (x : dens [.slice tStd, .int .i64, .int .i64, .int .u16]) (h : RepAll [.slice tStd, .int .i64, .int .i64, .int .u16] H x vs) : CallR Fn.E false H.length 5 vs H fun v _ => v = .bool true := by
  obtain ⟨v0, _, rfl, h0, v1, _, rfl, h1, v2, _, rfl, h2, v3, _, rfl, h3, rfl⟩ := h
  obtain ⟨p, cap, rfl, hs, hu, _⟩ := stds h0
  obtain ⟨rfl, _⟩ := int_arg h1
  obtain ⟨rfl, _⟩ := int_arg h2
  obtain ⟨rfl, h3, h4⟩ := int_arg h3
  rw [Fn.ClaimDays_ok hs ⟨h3, by have : IntKind.u16.max = 65535 := rfl; omega⟩]

theorem days_lifted (os : Os) (started : os.Started) (H : Type) (enc : TypeId × Value → H) :
    ReturnsInHanded {} Try.checked os 5 .any (Rows.claimDaysSpec.pre6 enc Try.prog Try.f5 Rows.claimDaysRow.domain false) (Rows.claimDaysSpec.post enc Try.prog Try.f5 false true false false) :=
  law_returns (C := Try.checked) (E := Fn.E) (tys := [.slice tStd, .int .i64, .int .i64, .int .u16]) own started (by kernel_rfl) Try.func5 rfl
    (fun ds hd => match ds, hd with | [_, _, _, _], _ => rfl) rfl (by kernel_rfl) (by kernel_rfl) (of_decide_eq_true (by kernel_rfl)) laidOut okE
    (ChangeSpec.witness6 (enc := enc) (C := Try.checked) false ⟨#[], #[.slice none 0 0, .int .i64 0, .int .i64 0, .int .u16 0], []⟩ 8 (by kernel_rfl) (by kernel_rfl) (by kernel_rfl) (by kernel_rfl)) days_run

theorem claimDays_holds : Rows.ClaimDaysSaid :=
  OpenClaim.holds_of_wide 5 Try.f5 rfl rfl rfl rfl rfl rfl rfl ⟨rfl, rfl, rfl, rfl, rfl⟩ rfl rfl rfl rfl rfl (by kernel_rfl) Try.func5 (by kernel_rfl)
    (of_decide_eq_true (by kernel_rfl)) (by unfold Func.isWrapper; first | (rw [if_pos (by decide +kernel)]; kernel_rfl) | (rw [if_neg (by decide +kernel)]; exact ⟨rfl, rfl⟩))
    (fun os started H enc _ => days_lifted os started H enc)
end Go.Proofs.Ytlmoijifgbkapaa
