/-
  Joined texts, 9 of 9. A part of the claim that the last text states.
-/
import Derived.Test.YtlmoijifgbkapaaProg
import Derived.Test.YtlmoijifgbkapaaRows
import Derived.Test.YtlmoijifgbkapaaPU8
namespace Go.Proofs.Ytlmoijifgbkapaa.Fn
open Go.AM
set_option maxRecDepth 100000

theorem t3 : trFunc Try.prog pf 3 = some a3 := by kernel_rfl
theorem t4 : trFunc Try.prog pf 4 = some a4 := by kernel_rfl
theorem t5 : trFunc Try.prog pf 5 = some a5 := by kernel_rfl
theorem t6 : trFunc Try.prog pf 6 = some a6 := by kernel_rfl
theorem t8 : trFunc Try.prog pf 8 = some a8 := by kernel_rfl
theorem t9 : trFunc Try.prog pf 9 = some a9 := by kernel_rfl
theorem t10 : trFunc Try.prog pf 10 = some a10 := by kernel_rfl
theorem t11 : trFunc Try.prog pf 11 = some a11 := by kernel_rfl
theorem t12 : trFunc Try.prog pf 12 = some a12 := by kernel_rfl
theorem t13 : trFunc Try.prog pf 13 = some a13 := by kernel_rfl
theorem t14 : trFunc Try.prog pf 14 = some a14 := by kernel_rfl
theorem t15 : trFunc Try.prog pf 15 = some a15 := by kernel_rfl

end Go.Proofs.Ytlmoijifgbkapaa.Fn
namespace Go.Proofs.Ytlmoijifgbkapaa.Fn
open Go.AM
set_option maxRecDepth 100000

theorem t16 : trFunc Try.prog pf 16 = some a16 := by kernel_rfl
theorem t17 : trFunc Try.prog pf 17 = some a17 := by kernel_rfl
theorem t18 : trFunc Try.prog pf 18 = some a18 := by kernel_rfl
theorem t19 : trFunc Try.prog pf 19 = some a19 := by kernel_rfl
theorem t20 : trFunc Try.prog pf 20 = some a20 := by kernel_rfl
theorem t21 : trFunc Try.prog pf 21 = some a21 := by kernel_rfl
theorem t22 : trFunc Try.prog pf 22 = some a22 := by kernel_rfl
theorem t24 : trFunc Try.prog pf 24 = some a24 := by kernel_rfl
theorem t25 : trFunc Try.prog pf 25 = some a25 := by kernel_rfl
theorem t26 : trFunc Try.prog pf 26 = some a26 := by kernel_rfl
theorem t27 : trFunc Try.prog pf 27 = some a27 := by kernel_rfl
theorem t28 : trFunc Try.prog pf 28 = some a28 := by kernel_rfl

end Go.Proofs.Ytlmoijifgbkapaa.Fn
namespace Go.Proofs.Ytlmoijifgbkapaa.Fn
open Go.AM
set_option maxRecDepth 100000

theorem t29 : trFunc Try.prog pf 29 = some a29 := by kernel_rfl
theorem t30 : trFunc Try.prog pf 30 = some a30 := by kernel_rfl
theorem t31 : trFunc Try.prog pf 31 = some a31 := by kernel_rfl
theorem t32 : trFunc Try.prog pf 32 = some a32 := by kernel_rfl
theorem t33 : trFunc Try.prog pf 33 = some a33 := by kernel_rfl
theorem t34 : trFunc Try.prog pf 34 = some a34 := by kernel_rfl
theorem t35 : trFunc Try.prog pf 35 = some a35 := by kernel_rfl
theorem t36 : trFunc Try.prog pf 36 = some a36 := by kernel_rfl
theorem t37 : trFunc Try.prog pf 37 = some a37 := by kernel_rfl
theorem t38 : trFunc Try.prog pf 38 = some a38 := by kernel_rfl
theorem t39 : trFunc Try.prog pf 39 = some a39 := by kernel_rfl
theorem t40 : trFunc Try.prog pf 40 = some a40 := by kernel_rfl

end Go.Proofs.Ytlmoijifgbkapaa.Fn
namespace Go.Proofs.Ytlmoijifgbkapaa.Fn
open Go.AM
set_option maxRecDepth 100000

theorem t41 : trFunc Try.prog pf 41 = some a41 := by kernel_rfl
theorem t42 : trFunc Try.prog pf 42 = some a42 := by kernel_rfl
theorem t43 : trFunc Try.prog pf 43 = some a43 := by kernel_rfl
theorem t44 : trFunc Try.prog pf 44 = some a44 := by kernel_rfl
theorem t45 : trFunc Try.prog pf 45 = some a45 := by kernel_rfl
theorem t46 : trFunc Try.prog pf 46 = some a46 := by kernel_rfl
theorem t47 : trFunc Try.prog pf 47 = some a47 := by kernel_rfl
theorem t48 : trFunc Try.prog pf 48 = some a48 := by kernel_rfl
theorem t49 : trFunc Try.prog pf 49 = some a49 := by kernel_rfl
theorem t50 : trFunc Try.prog pf 50 = some a50 := by kernel_rfl
theorem t51 : trFunc Try.prog pf 51 = some a51 := by kernel_rfl
theorem t52 : trFunc Try.prog pf 52 = some a52 := by kernel_rfl

end Go.Proofs.Ytlmoijifgbkapaa.Fn
namespace Go.Proofs.Ytlmoijifgbkapaa.Fn
open Go.AM
set_option maxRecDepth 100000

theorem t53 : trFunc Try.prog pf 53 = some a53 := by kernel_rfl
theorem t54 : trFunc Try.prog pf 54 = some a54 := by kernel_rfl
theorem t55 : trFunc Try.prog pf 55 = some a55 := by kernel_rfl
theorem t56 : trFunc Try.prog pf 56 = some a56 := by kernel_rfl
theorem t57 : trFunc Try.prog pf 57 = some a57 := by kernel_rfl
theorem t58 : trFunc Try.prog pf 58 = some a58 := by kernel_rfl
theorem t59 : trFunc Try.prog pf 59 = some a59 := by kernel_rfl
theorem t60 : trFunc Try.prog pf 60 = some a60 := by kernel_rfl
theorem t61 : trFunc Try.prog pf 61 = some a61 := by kernel_rfl
theorem t62 : trFunc Try.prog pf 62 = some a62 := by kernel_rfl
theorem t63 : trFunc Try.prog pf 63 = some a63 := by kernel_rfl
theorem t64 : trFunc Try.prog pf 64 = some a64 := by kernel_rfl

end Go.Proofs.Ytlmoijifgbkapaa.Fn
namespace Go.Proofs.Ytlmoijifgbkapaa.Fn
open Go.AM
set_option maxRecDepth 100000

theorem t65 : trFunc Try.prog pf 65 = some a65 := by kernel_rfl
theorem t66 : trFunc Try.prog pf 66 = some a66 := by kernel_rfl
theorem t67 : trFunc Try.prog pf 67 = some a67 := by kernel_rfl
theorem t68 : trFunc Try.prog pf 68 = some a68 := by kernel_rfl
theorem t69 : trFunc Try.prog pf 69 = some a69 := by kernel_rfl
theorem t70 : trFunc Try.prog pf 70 = some a70 := by kernel_rfl
theorem t71 : trFunc Try.prog pf 71 = some a71 := by kernel_rfl
theorem t72 : trFunc Try.prog pf 72 = some a72 := by kernel_rfl
theorem t73 : trFunc Try.prog pf 73 = some a73 := by kernel_rfl
theorem t74 : trFunc Try.prog pf 74 = some a74 := by kernel_rfl
theorem t75 : trFunc Try.prog pf 75 = some a75 := by kernel_rfl
theorem t76 : trFunc Try.prog pf 76 = some a76 := by kernel_rfl

end Go.Proofs.Ytlmoijifgbkapaa.Fn
namespace Go.Proofs.Ytlmoijifgbkapaa.Fn
open Go.AM
set_option maxRecDepth 100000

theorem t77 : trFunc Try.prog pf 77 = some a77 := by kernel_rfl
theorem t78 : trFunc Try.prog pf 78 = some a78 := by kernel_rfl
theorem t79 : trFunc Try.prog pf 79 = some a79 := by kernel_rfl
theorem t80 : trFunc Try.prog pf 80 = some a80 := by kernel_rfl
theorem t81 : trFunc Try.prog pf 81 = some a81 := by kernel_rfl
theorem t82 : trFunc Try.prog pf 82 = some a82 := by kernel_rfl
theorem t83 : trFunc Try.prog pf 83 = some a83 := by kernel_rfl
theorem t84 : trFunc Try.prog pf 84 = some a84 := by kernel_rfl
theorem t85 : trFunc Try.prog pf 85 = some a85 := by kernel_rfl
theorem t86 : trFunc Try.prog pf 86 = some a86 := by kernel_rfl
theorem t87 : trFunc Try.prog pf 87 = some a87 := by kernel_rfl
theorem t88 : trFunc Try.prog pf 88 = some a88 := by kernel_rfl

end Go.Proofs.Ytlmoijifgbkapaa.Fn
namespace Go.Proofs.Ytlmoijifgbkapaa.Fn
open Go.AM
set_option maxRecDepth 100000

theorem t89 : trFunc Try.prog pf 89 = some a89 := by kernel_rfl
theorem t90 : trFunc Try.prog pf 90 = some a90 := by kernel_rfl
theorem t91 : trFunc Try.prog pf 91 = some a91 := by kernel_rfl
theorem t92 : trFunc Try.prog pf 92 = some a92 := by kernel_rfl
theorem t93 : trFunc Try.prog pf 93 = some a93 := by kernel_rfl
theorem t94 : trFunc Try.prog pf 94 = some a94 := by kernel_rfl
theorem t95 : trFunc Try.prog pf 95 = some a95 := by kernel_rfl
theorem t96 : trFunc Try.prog pf 96 = some a96 := by kernel_rfl
theorem t97 : trFunc Try.prog pf 97 = some a97 := by kernel_rfl
theorem t98 : trFunc Try.prog pf 98 = some a98 := by kernel_rfl
theorem t99 : trFunc Try.prog pf 99 = some a99 := by kernel_rfl
theorem t100 : trFunc Try.prog pf 100 = some a100 := by kernel_rfl

end Go.Proofs.Ytlmoijifgbkapaa.Fn
namespace Go.Proofs.Ytlmoijifgbkapaa.Fn
open Go.AM
set_option maxRecDepth 100000

def E0 : Env := ⟨tr, pf, fun _ _ => none⟩
theorem tr_ok (g : FuncId) (af : AFunc) (h : tr g = some af) : trFunc Try.prog pf g = some af := by
  unfold tr table at h
  simp only [List.lookup] at h
  split at h
  · rename_i e; cases h; rw [beq_iff_eq.1 e]; exact t3
  split at h
  · rename_i e; cases h; rw [beq_iff_eq.1 e]; exact t4
  split at h
  · rename_i e; cases h; rw [beq_iff_eq.1 e]; exact t5
  split at h
  · rename_i e; cases h; rw [beq_iff_eq.1 e]; exact t6
  split at h
  · rename_i e; cases h; rw [beq_iff_eq.1 e]; exact t8
  split at h
  · rename_i e; cases h; rw [beq_iff_eq.1 e]; exact t9
  split at h
  · rename_i e; cases h; rw [beq_iff_eq.1 e]; exact t10
  split at h
  · rename_i e; cases h; rw [beq_iff_eq.1 e]; exact t11
  split at h
  · rename_i e; cases h; rw [beq_iff_eq.1 e]; exact t12
  split at h
  · rename_i e; cases h; rw [beq_iff_eq.1 e]; exact t13
  split at h
  · rename_i e; cases h; rw [beq_iff_eq.1 e]; exact t14
  split at h
  · rename_i e; cases h; rw [beq_iff_eq.1 e]; exact t15
  split at h
  · rename_i e; cases h; rw [beq_iff_eq.1 e]; exact t16
  split at h
  · rename_i e; cases h; rw [beq_iff_eq.1 e]; exact t17
  split at h
  · rename_i e; cases h; rw [beq_iff_eq.1 e]; exact t18
  split at h
  · rename_i e; cases h; rw [beq_iff_eq.1 e]; exact t19
  split at h
  · rename_i e; cases h; rw [beq_iff_eq.1 e]; exact t20
  split at h
  · rename_i e; cases h; rw [beq_iff_eq.1 e]; exact t21
  split at h
  · rename_i e; cases h; rw [beq_iff_eq.1 e]; exact t22
  split at h
  · rename_i e; cases h; rw [beq_iff_eq.1 e]; exact t24
  split at h
  · rename_i e; cases h; rw [beq_iff_eq.1 e]; exact t25
  split at h
  · rename_i e; cases h; rw [beq_iff_eq.1 e]; exact t26
  split at h
  · rename_i e; cases h; rw [beq_iff_eq.1 e]; exact t27
  split at h
  · rename_i e; cases h; rw [beq_iff_eq.1 e]; exact t28
  split at h
  · rename_i e; cases h; rw [beq_iff_eq.1 e]; exact t29
  split at h
  · rename_i e; cases h; rw [beq_iff_eq.1 e]; exact t30
  split at h
  · rename_i e; cases h; rw [beq_iff_eq.1 e]; exact t31
  split at h
  · rename_i e; cases h; rw [beq_iff_eq.1 e]; exact t32
  split at h
  · rename_i e; cases h; rw [beq_iff_eq.1 e]; exact t33
  split at h
  · rename_i e; cases h; rw [beq_iff_eq.1 e]; exact t34
  split at h
  · rename_i e; cases h; rw [beq_iff_eq.1 e]; exact t35
  split at h
  · rename_i e; cases h; rw [beq_iff_eq.1 e]; exact t36
  split at h
  · rename_i e; cases h; rw [beq_iff_eq.1 e]; exact t37
  split at h
  · rename_i e; cases h; rw [beq_iff_eq.1 e]; exact t38
  split at h
  · rename_i e; cases h; rw [beq_iff_eq.1 e]; exact t39
  split at h
  · rename_i e; cases h; rw [beq_iff_eq.1 e]; exact t40
  split at h
  · rename_i e; cases h; rw [beq_iff_eq.1 e]; exact t41
  split at h
  · rename_i e; cases h; rw [beq_iff_eq.1 e]; exact t42
  split at h
  · rename_i e; cases h; rw [beq_iff_eq.1 e]; exact t43
  split at h
  · rename_i e; cases h; rw [beq_iff_eq.1 e]; exact t44
  split at h
  · rename_i e; cases h; rw [beq_iff_eq.1 e]; exact t45
  split at h
  · rename_i e; cases h; rw [beq_iff_eq.1 e]; exact t46
  split at h
  · rename_i e; cases h; rw [beq_iff_eq.1 e]; exact t47
  split at h
  · rename_i e; cases h; rw [beq_iff_eq.1 e]; exact t48
  split at h
  · rename_i e; cases h; rw [beq_iff_eq.1 e]; exact t49
  split at h
  · rename_i e; cases h; rw [beq_iff_eq.1 e]; exact t50
  split at h
  · rename_i e; cases h; rw [beq_iff_eq.1 e]; exact t51
  split at h
  · rename_i e; cases h; rw [beq_iff_eq.1 e]; exact t52
  split at h
  · rename_i e; cases h; rw [beq_iff_eq.1 e]; exact t53
  split at h
  · rename_i e; cases h; rw [beq_iff_eq.1 e]; exact t54
  split at h
  · rename_i e; cases h; rw [beq_iff_eq.1 e]; exact t55
  split at h
  · rename_i e; cases h; rw [beq_iff_eq.1 e]; exact t56
  split at h
  · rename_i e; cases h; rw [beq_iff_eq.1 e]; exact t57
  split at h
  · rename_i e; cases h; rw [beq_iff_eq.1 e]; exact t58
  split at h
  · rename_i e; cases h; rw [beq_iff_eq.1 e]; exact t59
  split at h
  · rename_i e; cases h; rw [beq_iff_eq.1 e]; exact t60
  split at h
  · rename_i e; cases h; rw [beq_iff_eq.1 e]; exact t61
  split at h
  · rename_i e; cases h; rw [beq_iff_eq.1 e]; exact t62
  split at h
  · rename_i e; cases h; rw [beq_iff_eq.1 e]; exact t63
  split at h
  · rename_i e; cases h; rw [beq_iff_eq.1 e]; exact t64
  split at h
  · rename_i e; cases h; rw [beq_iff_eq.1 e]; exact t65
  split at h
  · rename_i e; cases h; rw [beq_iff_eq.1 e]; exact t66
  split at h
  · rename_i e; cases h; rw [beq_iff_eq.1 e]; exact t67
  split at h
  · rename_i e; cases h; rw [beq_iff_eq.1 e]; exact t68
  split at h
  · rename_i e; cases h; rw [beq_iff_eq.1 e]; exact t69
  split at h
  · rename_i e; cases h; rw [beq_iff_eq.1 e]; exact t70
  split at h
  · rename_i e; cases h; rw [beq_iff_eq.1 e]; exact t71
  split at h
  · rename_i e; cases h; rw [beq_iff_eq.1 e]; exact t72
  split at h
  · rename_i e; cases h; rw [beq_iff_eq.1 e]; exact t73
  split at h
  · rename_i e; cases h; rw [beq_iff_eq.1 e]; exact t74
  split at h
  · rename_i e; cases h; rw [beq_iff_eq.1 e]; exact t75
  split at h
  · rename_i e; cases h; rw [beq_iff_eq.1 e]; exact t76
  split at h
  · rename_i e; cases h; rw [beq_iff_eq.1 e]; exact t77
  split at h
  · rename_i e; cases h; rw [beq_iff_eq.1 e]; exact t78
  split at h
  · rename_i e; cases h; rw [beq_iff_eq.1 e]; exact t79
  split at h
  · rename_i e; cases h; rw [beq_iff_eq.1 e]; exact t80
  split at h
  · rename_i e; cases h; rw [beq_iff_eq.1 e]; exact t81
  split at h
  · rename_i e; cases h; rw [beq_iff_eq.1 e]; exact t82
  split at h
  · rename_i e; cases h; rw [beq_iff_eq.1 e]; exact t83
  split at h
  · rename_i e; cases h; rw [beq_iff_eq.1 e]; exact t84
  split at h
  · rename_i e; cases h; rw [beq_iff_eq.1 e]; exact t85
  split at h
  · rename_i e; cases h; rw [beq_iff_eq.1 e]; exact t86
  split at h
  · rename_i e; cases h; rw [beq_iff_eq.1 e]; exact t87
  split at h
  · rename_i e; cases h; rw [beq_iff_eq.1 e]; exact t88
  split at h
  · rename_i e; cases h; rw [beq_iff_eq.1 e]; exact t89
  split at h
  · rename_i e; cases h; rw [beq_iff_eq.1 e]; exact t90
  split at h
  · rename_i e; cases h; rw [beq_iff_eq.1 e]; exact t91
  split at h
  · rename_i e; cases h; rw [beq_iff_eq.1 e]; exact t92
  split at h
  · rename_i e; cases h; rw [beq_iff_eq.1 e]; exact t93
  split at h
  · rename_i e; cases h; rw [beq_iff_eq.1 e]; exact t94
  split at h
  · rename_i e; cases h; rw [beq_iff_eq.1 e]; exact t95
  split at h
  · rename_i e; cases h; rw [beq_iff_eq.1 e]; exact t96
  split at h
  · rename_i e; cases h; rw [beq_iff_eq.1 e]; exact t97
  split at h
  · rename_i e; cases h; rw [beq_iff_eq.1 e]; exact t98
  split at h
  · rename_i e; cases h; rw [beq_iff_eq.1 e]; exact t99
  split at h
  · rename_i e; cases h; rw [beq_iff_eq.1 e]; exact t100
  cases h
theorem ok0 : EnvOk Try.prog E0 := ⟨tr_ok, (fun _ _ _ h => by cases h), (fun _ _ _ h => by cases h), (fun _ _ _ h => by cases h), by kernel_rfl⟩

end Go.Proofs.Ytlmoijifgbkapaa.Fn
namespace Go.Proofs.Ytlmoijifgbkapaa
open Go.AM Go.RowKit
set_option maxRecDepth 100000
set_option linter.unusedVariables false
set_option linter.unusedSimpArgs false
set_option maxHeartbeats 4000000

theorem awake_run : ∃ n, aCall Fn.E0 n false 0 10 [] [] = some (.bool true, []) := ⟨1000, by kernel_rfl⟩
theorem awake_calls (w : World) : Calls Try.prog 10 #[] w fun e w' => e = .returned (.bool true) ∧ Below w.heap.size w w' := by
  obtain ⟨n, h⟩ := awake_run
  refine ((callOk Fn.ok0 n).calls _ _ _ _ _ _ _ h (Nat.le_refl _) _ _ w [] (Inv.nil w) LRel.nil).mono fun e w' hp => ?_
  obtain ⟨v', σ', rfl, hv, _, hst, _⟩ := hp
  rw [hv.bool_left]
  exact ⟨rfl, hst.os, hst.tape, hst.output, hst.size, fun k hk => hst.block k (by omega)⟩
theorem fn10 : ∃ fn, Try.prog.funcs[10]? = some fn ∧ fn.body.isSome = true ∧ (fn.name == "runtime.NumGoroutine") = false := by
  obtain ⟨n, h⟩ := awake_run
  exact (callOk Fn.ok0 n).fn _ _ _ _ _ _ _ h
theorem okE : EnvOk Try.prog Fn.E := by
  have key : ∀ g xs v, Fn.E.orc g xs = some v → g = 10 ∧ xs = [] ∧ v = .bool true := by
    intro g xs v h
    simp only [Fn.E, Fn.orc] at h
    split at h
    · rename_i hc; cases h; exact ⟨hc.1, hc.2, rfl⟩
    · cases h
  refine ⟨Fn.tr_ok, fun g xs v h => ?_, fun g xs v h w => ?_, fun g xs v h σ => ?_, Fn.ok0.mixed⟩
  · obtain ⟨rfl, rfl, rfl⟩ := key g xs v h; exact fn10
  · obtain ⟨rfl, rfl, rfl⟩ := key g xs v h; exact awake_calls w
  · obtain ⟨rfl, rfl, rfl⟩ := key g xs v h; exact .atom rfl
theorem own : ownKnob Try.prog.godebug = none := by kernel_rfl
theorem laidOut : laidOutB Try.prog = true := by kernel_rfl

/-- The type of standards. -/
abbrev tStd : Ty := .pair (.int .u8) (.pair (.int .i64) (.pair (.int .i64) (.pair (.int .i64) .nil)))
def toStd (x : tStd.den) : Fn.Std := ⟨x.1, x.2.1, x.2.2.1, x.2.2.2.1⟩
theorem std_enc (H : Heap) (x : tStd.den) (c : List Value) (h : Rep tStd H x c) : c = Fn.encS (toStd x) := by
  obtain ⟨c1, r1, rfl, h1, c2, r2, rfl, h2, c3, r3, rfl, h3, c4, r4, rfl, h4, h5⟩ := h
  simp only [Rep] at h1 h2 h3 h4 h5
  rw [h1.1, h2.1, h3.1, h4.1, h5]
  rfl
theorem std_pos (H : Heap) (x : tStd.den) (c : List Value) (h : Rep tStd H x c) : 0 ≤ (toStd x).cls := by
  obtain ⟨c1, r1, rfl, h1, _⟩ := h
  exact h1.2.1
theorem stds {H : Heap} {l : List tStd.den} {v : Value} (h : RepV (.slice tStd) H l v) : ∃ p cap, v = .slice p (l.map toStd).length cap ∧ Sl H Fn.encS 4 p (l.map toStd) ∧ (∀ x ∈ l.map toStd, 0 ≤ x.cls) ∧ l.length < 2 ^ 63 := by
  unfold RepV at h
  rw [if_neg (by decide)] at h
  obtain ⟨p, cap, e, h1, h2⟩ := Rep.sl toStd Fn.encS std_enc h
  cases e
  refine ⟨p, cap, rfl, h1, fun x hx => ?_, h2⟩
  obtain ⟨y, hy, rfl⟩ := List.mem_map.1 hx
  obtain ⟨c, hc⟩ := Rep.slice_mem h y hy
  exact std_pos H y c hc
theorem int_arg {k : IntKind} {H : Heap} {n : Int} {v : Value} (h : RepV (.int k) H n v) : v = .int k n ∧ k.min ≤ n ∧ n ≤ k.max := by
  unfold RepV at h
  rw [if_neg (by simp [isRow])] at h
  obtain ⟨e, h⟩ := h
  cases e
  exact ⟨rfl, h⟩

theorem promise_run (H : Heap) (vs : List Value) (x : dens [.slice tStd, .int .u8, .int .i64, .int .i64, .int .i64]) (h : RepAll [.slice tStd, .int .u8, .int .i64, .int .i64, .int .i64] H x vs) : CallR Fn.E false H.length 3 vs H fun v _ => v = .bool true := by
  obtain ⟨v0, _, rfl, h0, v1, _, rfl, h1, v2, _, rfl, h2, v3, _, rfl, h3, v4, _, rfl, h4, rfl⟩ := h
  obtain ⟨p, cap, rfl, hs, hu, _⟩ := stds h0
  obtain ⟨rfl, _⟩ := int_arg h1
  obtain ⟨rfl, _⟩ := int_arg h2
  obtain ⟨rfl, _⟩ := int_arg h3
  obtain ⟨rfl, _⟩ := int_arg h4
  rw [Fn.ClaimPromise_ok hs hu]

theorem promise_lifted (os : Os) (started : os.Started) (H : Type) (enc : TypeId × Value → H) :
    ReturnsInHanded {} Try.checked os 3 .any (Rows.claimPromiseSpec.pre6 enc Try.prog Try.f3 Rows.claimPromiseRow.domain false) (Rows.claimPromiseSpec.post enc Try.prog Try.f3 false true false false) :=
  law_returns (C := Try.checked) (E := Fn.E) (tys := [.slice tStd, .int .u8, .int .i64, .int .i64, .int .i64]) own started (by kernel_rfl) Try.func3 rfl
    (fun ds hd => match ds, hd with | [_, _, _, _, _], _ => rfl) rfl (by kernel_rfl) (by kernel_rfl) (of_decide_eq_true (by kernel_rfl)) laidOut okE
    (ChangeSpec.witness6 (enc := enc) (C := Try.checked) false ⟨#[], #[.slice none 0 0, .int .u8 0, .int .i64 0, .int .i64 0, .int .i64 0], []⟩ 8 (by kernel_rfl) (by kernel_rfl) (by kernel_rfl) (by kernel_rfl)) promise_run

theorem claimPromise_holds : Rows.ClaimPromiseSaid :=
  OpenClaim.holds_of_wide 3 Try.f3 rfl rfl rfl rfl rfl rfl rfl ⟨rfl, rfl, rfl, rfl, rfl⟩ rfl rfl rfl rfl rfl (by kernel_rfl) Try.func3 (by kernel_rfl)
    (of_decide_eq_true (by kernel_rfl)) (by unfold Func.isWrapper; first | (rw [if_pos (by decide +kernel)]; kernel_rfl) | (rw [if_neg (by decide +kernel)]; exact ⟨rfl, rfl⟩))
    (fun os started H enc _ => promise_lifted os started H enc)

theorem days_run (H : Heap) (vs : List Value) (x : dens [.slice tStd, .int .i64, .int .i64, .int .u16]) (h : RepAll [.slice tStd, .int .i64, .int .i64, .int .u16] H x vs) : CallR Fn.E false H.length 5 vs H fun v _ => v = .bool true := by
  obtain ⟨v0, _, rfl, h0, v1, _, rfl, h1, v2, _, rfl, h2, v3, _, rfl, h3, rfl⟩ := h
  obtain ⟨p, cap, rfl, hs, hu, _⟩ := stds h0
  obtain ⟨rfl, _⟩ := int_arg h1
  obtain ⟨rfl, _⟩ := int_arg h2
  obtain ⟨rfl, h3, h4⟩ := int_arg h3
  rw [Fn.ClaimDays_ok hs ⟨h3, by have : IntKind.u16.max = 65535 := rfl; omega⟩]

theorem days_lifted (os : Os) (started : os.Started) (H : Type) (enc : TypeId × Value → H) :
    ReturnsInHanded {} Try.checked os 5 .any (Rows.claimDaysSpec.pre6 enc Try.prog Try.f5 Rows.claimDaysRow.domain false) (Rows.claimDaysSpec.post enc Try.prog Try.f5 false true false false) :=
  law_returns (C := Try.checked) (E := Fn.E) (tys := [.slice tStd, .int .i64, .int .i64, .int .u16]) own started (by kernel_rfl) Try.func5 rfl
    (fun ds hd => match ds, hd with | [_, _, _, _], _ => rfl) rfl (by kernel_rfl) (by kernel_rfl) (of_decide_eq_true (by kernel_rfl)) laidOut okE
    (ChangeSpec.witness6 (enc := enc) (C := Try.checked) false ⟨#[], #[.slice none 0 0, .int .i64 0, .int .i64 0, .int .u16 0], []⟩ 8 (by kernel_rfl) (by kernel_rfl) (by kernel_rfl) (by kernel_rfl)) days_run

theorem claimDays_holds : Rows.ClaimDaysSaid :=
  OpenClaim.holds_of_wide 5 Try.f5 rfl rfl rfl rfl rfl rfl rfl ⟨rfl, rfl, rfl, rfl, rfl⟩ rfl rfl rfl rfl rfl (by kernel_rfl) Try.func5 (by kernel_rfl)
    (of_decide_eq_true (by kernel_rfl)) (by unfold Func.isWrapper; first | (rw [if_pos (by decide +kernel)]; kernel_rfl) | (rw [if_neg (by decide +kernel)]; exact ⟨rfl, rfl⟩))
    (fun os started H enc _ => days_lifted os started H enc)
end Go.Proofs.Ytlmoijifgbkapaa
namespace Go.Proofs.Ytlmoijifgbkapaa
open Go.AM Go.RowKit
set_option maxRecDepth 100000
set_option linter.unusedVariables false
set_option linter.unusedSimpArgs false
set_option maxHeartbeats 4000000

abbrev tTrm : Ty := .pair (.int .u8) (.pair (.int .i64) (.pair (.int .i64) (.pair (.int .i64) (.pair (.int .i64) (.pair (.int .i64) (.pair (.int .i64) .nil))))))
abbrev tSnt : Ty := .pair (.int .i64) (.pair (.int .u8) (.pair (.int .i64) (.pair (.int .i64) (.pair (.int .i64) (.pair (.int .i64) .nil)))))
abbrev tClm : Ty := .pair (.int .i64) (.pair (.int .i64) (.pair (.int .i64) (.pair (.int .u8) (.pair (.int .i64) (.pair (.int .i64) .nil)))))
def toTrm (x : tTrm.den) : Fn.Trm := ⟨x.1, x.2.1, x.2.2.1, x.2.2.2.1, x.2.2.2.2.1, x.2.2.2.2.2.1, x.2.2.2.2.2.2.1⟩
def toSnt (x : tSnt.den) : Fn.Snt := ⟨x.1, x.2.1, x.2.2.1, x.2.2.2.1, x.2.2.2.2.1, x.2.2.2.2.2.1⟩
def toClm (x : tClm.den) : Fn.Clm := ⟨x.1, x.2.1, x.2.2.1, x.2.2.2.1, x.2.2.2.2.1, x.2.2.2.2.2.1⟩
theorem trm_enc (H : Heap) (x : tTrm.den) (c : List Value) (h : Rep tTrm H x c) : c = Fn.encT (toTrm x) := by
  obtain ⟨c1, r1, rfl, h1, c2, r2, rfl, h2, c3, r3, rfl, h3, c4, r4, rfl, h4, c5, r5, rfl, h5, c6, r6, rfl, h6, c7, r7, rfl, h7, h8⟩ := h
  simp only [Rep] at h1 h2 h3 h4 h5 h6 h7 h8
  rw [h1.1, h2.1, h3.1, h4.1, h5.1, h6.1, h7.1, h8]
  rfl
theorem snt_enc (H : Heap) (x : tSnt.den) (c : List Value) (h : Rep tSnt H x c) : c = Fn.encN (toSnt x) := by
  obtain ⟨c1, r1, rfl, h1, c2, r2, rfl, h2, c3, r3, rfl, h3, c4, r4, rfl, h4, c5, r5, rfl, h5, c6, r6, rfl, h6, h7⟩ := h
  simp only [Rep] at h1 h2 h3 h4 h5 h6 h7
  rw [h1.1, h2.1, h3.1, h4.1, h5.1, h6.1, h7]
  rfl
theorem clm_enc (H : Heap) (x : tClm.den) (c : List Value) (h : Rep tClm H x c) : c = Fn.encC (toClm x) := by
  obtain ⟨c1, r1, rfl, h1, c2, r2, rfl, h2, c3, r3, rfl, h3, c4, r4, rfl, h4, c5, r5, rfl, h5, c6, r6, rfl, h6, h7⟩ := h
  simp only [Rep] at h1 h2 h3 h4 h5 h6 h7
  rw [h1.1, h2.1, h3.1, h4.1, h5.1, h6.1, h7]
  rfl
theorem slice_arg {t : Ty} {H : Heap} {l : List t.den} {v : Value} {α : Type} (f : t.den → α) (enc : α → List Value) (he : ∀ H x c, Rep t H x c → c = enc (f x)) (h : RepV (.slice t) H l v) : ∃ p cap, v = .slice p (l.map f).length cap ∧ Sl H enc t.size p (l.map f) := by
  unfold RepV at h
  rw [if_neg (by simp [isRow])] at h
  obtain ⟨p, cap, e, h1, _⟩ := Rep.sl f enc he h
  cases e
  exact ⟨p, cap, rfl, h1⟩
abbrev tysLater : List Ty := [.slice tStd, .slice tTrm, .slice tSnt, tClm, .int .i64]
theorem later_run (H : Heap) (vs : List Value) (x : dens tysLater) (h : RepAll tysLater H x vs) : CallR Fn.E false H.length 4 vs H fun v _ => v = .bool true := by
  obtain ⟨v0, _, rfl, h0, v1, _, rfl, h1, v2, _, rfl, h2, v3, _, rfl, h3, v4, _, rfl, h4, rfl⟩ := h
  obtain ⟨p0, k0, rfl, s0⟩ := slice_arg toStd Fn.encS std_enc h0
  obtain ⟨p1, k1, rfl, s1⟩ := slice_arg toTrm Fn.encT trm_enc h1
  obtain ⟨p2, k2, rfl, s2⟩ := slice_arg toSnt Fn.encN snt_enc h2
  obtain ⟨cs, rfl, h3⟩ := h3
  obtain ⟨rfl, _⟩ := int_arg h4
  have e3 := clm_enc H _ _ h3
  rw [e3]
  exact (Fn.ClaimLater_ok (c := toClm x.2.2.2.1) (Q := fun v _ => v = .bool true) s0 s1 s2 (by
    intro hne hp
    rw [hp] at s2
    exact hne s2)) ▸ rfl

theorem later_lifted (os : Os) (started : os.Started) (H : Type) (enc : TypeId × Value → H) :
    ReturnsInHanded {} Try.checked os 4 .any (Rows.claimLaterSpec.pre6 enc Try.prog Try.f4 Rows.claimLaterRow.domain false) (Rows.claimLaterSpec.post enc Try.prog Try.f4 false true false false) :=
  law_returns (C := Try.checked) (E := Fn.E) (tys := tysLater) own started (by kernel_rfl) Try.func4 rfl
    (fun ds hd => match ds, hd with | [_, _, _, _, _], _ => rfl) rfl (by kernel_rfl) (by kernel_rfl) (of_decide_eq_true (by kernel_rfl)) laidOut okE
    (ChangeSpec.witness6 (enc := enc) (C := Try.checked) false ⟨#[], #[.slice none 0 0, .slice none 0 0, .slice none 0 0, .agg #[.int .i64 0, .int .i64 0, .int .i64 0, .int .u8 0, .int .i64 0, .int .i64 0], .int .i64 0], []⟩ 8 (by kernel_rfl) (by kernel_rfl) (by kernel_rfl) (by kernel_rfl)) later_run

theorem claimLater_holds : Rows.ClaimLaterSaid :=
  OpenClaim.holds_of_wide 4 Try.f4 rfl rfl rfl rfl rfl rfl rfl ⟨rfl, rfl, rfl, rfl, rfl⟩ rfl rfl rfl rfl rfl (by kernel_rfl) Try.func4 (by kernel_rfl)
    (of_decide_eq_true (by kernel_rfl)) (by unfold Func.isWrapper; first | (rw [if_pos (by decide +kernel)]; kernel_rfl) | (rw [if_neg (by decide +kernel)]; exact ⟨rfl, rfl⟩))
    (fun os started H enc _ => later_lifted os started H enc)
end Go.Proofs.Ytlmoijifgbkapaa
namespace Go.Proofs.Ytlmoijifgbkapaa
open Go.AM Go.RowKit
set_option maxRecDepth 100000
set_option linter.unusedVariables false
set_option linter.unusedSimpArgs false
set_option maxHeartbeats 4000000

theorem Sl.some_of {α : Type} {H : Heap} {enc : α → List Value} {e : Nat} {p : Option Addr} {l : List α} (h : Sl H enc e p l) : l ≠ [] → p ≠ none := by
  intro hne hp
  rw [hp] at h
  exact hne h
abbrev tysLists : List Ty := [.slice tStd, .slice tTrm, .slice tSnt, .slice tClm]
theorem once_run (H : Heap) (vs : List Value) (x : dens tysLists) (h : RepAll tysLists H x vs) : CallR Fn.E false H.length 8 vs H fun v _ => v = .bool true := by
  obtain ⟨v0, _, rfl, h0, v1, _, rfl, h1, v2, _, rfl, h2, v3, _, rfl, h3, rfl⟩ := h
  obtain ⟨p0, k0, rfl, s0⟩ := slice_arg toStd Fn.encS std_enc h0
  obtain ⟨p1, k1, rfl, s1⟩ := slice_arg toTrm Fn.encT trm_enc h1
  obtain ⟨p2, k2, rfl, s2⟩ := slice_arg toSnt Fn.encN snt_enc h2
  obtain ⟨p3, k3, rfl, s3⟩ := slice_arg toClm Fn.encC clm_enc h3
  rw [Fn.ClaimOnce_ok s0 s1 s2 s3 (Sl.some_of s3)]

theorem once_lifted (os : Os) (started : os.Started) (H : Type) (enc : TypeId × Value → H) :
    ReturnsInHanded {} Try.checked os 8 .any (Rows.claimOnceSpec.pre6 enc Try.prog Try.f8 Rows.claimOnceRow.domain false) (Rows.claimOnceSpec.post enc Try.prog Try.f8 false true false false) :=
  law_returns (C := Try.checked) (E := Fn.E) (tys := tysLists) own started (by kernel_rfl) Try.func8 rfl
    (fun ds hd => match ds, hd with | [_, _, _, _], _ => rfl) rfl (by kernel_rfl) (by kernel_rfl) (of_decide_eq_true (by kernel_rfl)) laidOut okE
    (ChangeSpec.witness6 (enc := enc) (C := Try.checked) false ⟨#[], #[.slice none 0 0, .slice none 0 0, .slice none 0 0, .slice none 0 0], []⟩ 8 (by kernel_rfl) (by kernel_rfl) (by kernel_rfl) (by kernel_rfl)) once_run

theorem claimOnce_holds : Rows.ClaimOnceSaid :=
  OpenClaim.holds_of_wide 8 Try.f8 rfl rfl rfl rfl rfl rfl rfl ⟨rfl, rfl, rfl, rfl, rfl⟩ rfl rfl rfl rfl rfl (by kernel_rfl) Try.func8 (by kernel_rfl)
    (of_decide_eq_true (by kernel_rfl)) (by unfold Func.isWrapper; first | (rw [if_pos (by decide +kernel)]; kernel_rfl) | (rw [if_neg (by decide +kernel)]; exact ⟨rfl, rfl⟩))
    (fun os started H enc _ => once_lifted os started H enc)
end Go.Proofs.Ytlmoijifgbkapaa
namespace Go.Proofs.Ytlmoijifgbkapaa
open Go.AM Go.RowKit
set_option maxRecDepth 100000
set_option linter.unusedVariables false
set_option linter.unusedSimpArgs false
set_option maxHeartbeats 4000000

/-- What holds of all data holds of the elements of a slice. -/
theorem slice_all {t : Ty} {H : Heap} {l : List t.den} {v : Value} {α : Type} (f : t.den → α) (P : α → Prop) (hP : ∀ H x c, Rep t H x c → P (f x)) (h : RepV (.slice t) H l v) : ∀ y ∈ l.map f, P y := by
  unfold RepV at h
  rw [if_neg (by simp [isRow])] at h
  intro y hy
  obtain ⟨x, hx, rfl⟩ := List.mem_map.1 hy
  obtain ⟨c, hc⟩ := Rep.slice_mem h x hx
  exact hP H x c hc
theorem trm_pos (H : Heap) (x : tTrm.den) (c : List Value) (h : Rep tTrm H x c) : 0 ≤ (toTrm x).cls := by
  obtain ⟨c1, r1, rfl, h1, _⟩ := h
  exact h1.2.1
theorem snt_pos (H : Heap) (x : tSnt.den) (c : List Value) (h : Rep tSnt H x c) : 0 ≤ (toSnt x).cls := by
  obtain ⟨c1, r1, rfl, h1, c2, r2, rfl, h2, _⟩ := h
  exact h2.2.1
theorem clm_pos (H : Heap) (x : tClm.den) (c : List Value) (h : Rep tClm H x c) : 0 ≤ (toClm x).kind ∧ (toClm x).kind < 256 := by
  obtain ⟨c1, r1, rfl, h1, c2, r2, rfl, h2, c3, r3, rfl, h3, c4, r4, rfl, h4, _⟩ := h
  refine ⟨h4.2.1, ?_⟩
  have : IntKind.u8.max = 255 := rfl
  have h5 := h4.2.2
  rw [this] at h5
  exact Int.lt_of_le_of_lt h5 (by decide)
theorem tells_run (H : Heap) (vs : List Value) (x : dens tysLists) (h : RepAll tysLists H x vs) : CallR Fn.E false H.length 6 vs H fun v _ => v = .bool true := by
  obtain ⟨v0, _, rfl, h0, v1, _, rfl, h1, v2, _, rfl, h2, v3, _, rfl, h3, rfl⟩ := h
  have u0 := slice_all toStd (fun x => 0 ≤ x.cls) std_pos h0
  have u1 := slice_all toTrm (fun x => 0 ≤ x.cls) trm_pos h1
  have u2 := slice_all toSnt (fun x => 0 ≤ x.cls) snt_pos h2
  have u3 := slice_all toClm (fun x => 0 ≤ x.kind ∧ x.kind < 256) clm_pos h3
  obtain ⟨p0, k0, rfl, s0⟩ := slice_arg toStd Fn.encS std_enc h0
  obtain ⟨p1, k1, rfl, s1⟩ := slice_arg toTrm Fn.encT trm_enc h1
  obtain ⟨p2, k2, rfl, s2⟩ := slice_arg toSnt Fn.encN snt_enc h2
  obtain ⟨p3, k3, rfl, s3⟩ := slice_arg toClm Fn.encC clm_enc h3
  rw [Fn.ClaimTells_ok s0 s1 s2 s3 u0 u1 u2 u3 (Sl.some_of s3) (Sl.some_of s0) (Sl.some_of s1) (Sl.some_of s2)]

theorem tells_lifted (os : Os) (started : os.Started) (H : Type) (enc : TypeId × Value → H) :
    ReturnsInHanded {} Try.checked os 6 .any (Rows.claimTellsSpec.pre6 enc Try.prog Try.f6 Rows.claimTellsRow.domain false) (Rows.claimTellsSpec.post enc Try.prog Try.f6 false true false false) :=
  law_returns (C := Try.checked) (E := Fn.E) (tys := tysLists) own started (by kernel_rfl) Try.func6 rfl
    (fun ds hd => match ds, hd with | [_, _, _, _], _ => rfl) rfl (by kernel_rfl) (by kernel_rfl) (of_decide_eq_true (by kernel_rfl)) laidOut okE
    (ChangeSpec.witness6 (enc := enc) (C := Try.checked) false ⟨#[], #[.slice none 0 0, .slice none 0 0, .slice none 0 0, .slice none 0 0], []⟩ 8 (by kernel_rfl) (by kernel_rfl) (by kernel_rfl) (by kernel_rfl)) tells_run

theorem claimTells_holds : Rows.ClaimTellsSaid :=
  OpenClaim.holds_of_wide 6 Try.f6 rfl rfl rfl rfl rfl rfl rfl ⟨rfl, rfl, rfl, rfl, rfl⟩ rfl rfl rfl rfl rfl (by kernel_rfl) Try.func6 (by kernel_rfl)
    (of_decide_eq_true (by kernel_rfl)) (by unfold Func.isWrapper; first | (rw [if_pos (by decide +kernel)]; kernel_rfl) | (rw [if_neg (by decide +kernel)]; exact ⟨rfl, rfl⟩))
    (fun os started H enc _ => tells_lifted os started H enc)
end Go.Proofs.Ytlmoijifgbkapaa
