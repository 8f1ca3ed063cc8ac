/-
  Joined texts, 9 of 9. A part of the claim that the last text states.
-/
import Derived.Test.YtcmhnincbkbncaaProg
import Derived.Test.YtcmhnincbkbncaaRows
import Derived.Test.YtcmhnincbkbncaaPK8
namespace Go.Proofs.Ytcmhnincbkbncaa.Fn
open Go.AM
set_option maxRecDepth 100000

theorem t4 : trFunc Try.prog pf 4 = some a4 := by kernel_rfl
theorem t5 : trFunc Try.prog pf 5 = some a5 := by kernel_rfl
theorem t6 : trFunc Try.prog pf 6 = some a6 := by kernel_rfl
theorem t7 : trFunc Try.prog pf 7 = some a7 := by kernel_rfl
theorem t9 : trFunc Try.prog pf 9 = some a9 := by kernel_rfl
theorem t10 : trFunc Try.prog pf 10 = some a10 := by kernel_rfl
theorem t17 : trFunc Try.prog pf 17 = some a17 := by kernel_rfl
theorem t21 : trFunc Try.prog pf 21 = some a21 := by kernel_rfl
theorem t22 : trFunc Try.prog pf 22 = some a22 := by kernel_rfl
theorem t23 : trFunc Try.prog pf 23 = some a23 := by kernel_rfl
theorem t24 : trFunc Try.prog pf 24 = some a24 := by kernel_rfl
theorem t25 : trFunc Try.prog pf 25 = some a25 := by kernel_rfl

end Go.Proofs.Ytcmhnincbkbncaa.Fn
namespace Go.Proofs.Ytcmhnincbkbncaa.Fn
open Go.AM
set_option maxRecDepth 100000

theorem t26 : trFunc Try.prog pf 26 = some a26 := by kernel_rfl
theorem t27 : trFunc Try.prog pf 27 = some a27 := by kernel_rfl
theorem t28 : trFunc Try.prog pf 28 = some a28 := by kernel_rfl
theorem t29 : trFunc Try.prog pf 29 = some a29 := by kernel_rfl
theorem t30 : trFunc Try.prog pf 30 = some a30 := by kernel_rfl
theorem t31 : trFunc Try.prog pf 31 = some a31 := by kernel_rfl
theorem t32 : trFunc Try.prog pf 32 = some a32 := by kernel_rfl
theorem t33 : trFunc Try.prog pf 33 = some a33 := by kernel_rfl
theorem t35 : trFunc Try.prog pf 35 = some a35 := by kernel_rfl
theorem t36 : trFunc Try.prog pf 36 = some a36 := by kernel_rfl
theorem t55 : trFunc Try.prog pf 55 = some a55 := by kernel_rfl
theorem t60 : trFunc Try.prog pf 60 = some a60 := by kernel_rfl

end Go.Proofs.Ytcmhnincbkbncaa.Fn
namespace Go.Proofs.Ytcmhnincbkbncaa.Fn
open Go.AM
set_option maxRecDepth 100000

theorem t61 : trFunc Try.prog pf 61 = some a61 := by kernel_rfl
theorem t62 : trFunc Try.prog pf 62 = some a62 := by kernel_rfl
theorem t63 : trFunc Try.prog pf 63 = some a63 := by kernel_rfl
theorem t64 : trFunc Try.prog pf 64 = some a64 := by kernel_rfl
theorem t65 : trFunc Try.prog pf 65 = some a65 := by kernel_rfl
theorem t66 : trFunc Try.prog pf 66 = some a66 := by kernel_rfl
theorem t67 : trFunc Try.prog pf 67 = some a67 := by kernel_rfl
theorem t68 : trFunc Try.prog pf 68 = some a68 := by kernel_rfl
theorem t69 : trFunc Try.prog pf 69 = some a69 := by kernel_rfl
theorem t70 : trFunc Try.prog pf 70 = some a70 := by kernel_rfl
theorem t71 : trFunc Try.prog pf 71 = some a71 := by kernel_rfl
theorem t72 : trFunc Try.prog pf 72 = some a72 := by kernel_rfl

end Go.Proofs.Ytcmhnincbkbncaa.Fn
namespace Go.Proofs.Ytcmhnincbkbncaa.Fn
open Go.AM
set_option maxRecDepth 100000

theorem t73 : trFunc Try.prog pf 73 = some a73 := by kernel_rfl
theorem t74 : trFunc Try.prog pf 74 = some a74 := by kernel_rfl
theorem t75 : trFunc Try.prog pf 75 = some a75 := by kernel_rfl
theorem t76 : trFunc Try.prog pf 76 = some a76 := by kernel_rfl
theorem t77 : trFunc Try.prog pf 77 = some a77 := by kernel_rfl
theorem t78 : trFunc Try.prog pf 78 = some a78 := by kernel_rfl
theorem t79 : trFunc Try.prog pf 79 = some a79 := by kernel_rfl
theorem t96 : trFunc Try.prog pf 96 = some a96 := by kernel_rfl
theorem t101 : trFunc Try.prog pf 101 = some a101 := by kernel_rfl
theorem t102 : trFunc Try.prog pf 102 = some a102 := by kernel_rfl
theorem t103 : trFunc Try.prog pf 103 = some a103 := by kernel_rfl
theorem t104 : trFunc Try.prog pf 104 = some a104 := by kernel_rfl

end Go.Proofs.Ytcmhnincbkbncaa.Fn
namespace Go.Proofs.Ytcmhnincbkbncaa.Fn
open Go.AM
set_option maxRecDepth 100000

theorem t105 : trFunc Try.prog pf 105 = some a105 := by kernel_rfl
theorem t106 : trFunc Try.prog pf 106 = some a106 := by kernel_rfl
theorem t107 : trFunc Try.prog pf 107 = some a107 := by kernel_rfl
theorem t108 : trFunc Try.prog pf 108 = some a108 := by kernel_rfl
theorem t109 : trFunc Try.prog pf 109 = some a109 := by kernel_rfl
theorem t120 : trFunc Try.prog pf 120 = some a120 := by kernel_rfl
theorem t121 : trFunc Try.prog pf 121 = some a121 := by kernel_rfl
theorem t122 : trFunc Try.prog pf 122 = some a122 := by kernel_rfl
theorem t123 : trFunc Try.prog pf 123 = some a123 := by kernel_rfl
theorem t125 : trFunc Try.prog pf 125 = some a125 := by kernel_rfl
theorem t126 : trFunc Try.prog pf 126 = some a126 := by kernel_rfl
theorem t127 : trFunc Try.prog pf 127 = some a127 := by kernel_rfl

end Go.Proofs.Ytcmhnincbkbncaa.Fn
namespace Go.Proofs.Ytcmhnincbkbncaa.Fn
open Go.AM
set_option maxRecDepth 100000

theorem t128 : trFunc Try.prog pf 128 = some a128 := by kernel_rfl
theorem t129 : trFunc Try.prog pf 129 = some a129 := by kernel_rfl
theorem t130 : trFunc Try.prog pf 130 = some a130 := by kernel_rfl
theorem t131 : trFunc Try.prog pf 131 = some a131 := by kernel_rfl
theorem t132 : trFunc Try.prog pf 132 = some a132 := by kernel_rfl
theorem t133 : trFunc Try.prog pf 133 = some a133 := by kernel_rfl
theorem t134 : trFunc Try.prog pf 134 = some a134 := by kernel_rfl
theorem t137 : trFunc Try.prog pf 137 = some a137 := by kernel_rfl
theorem t138 : trFunc Try.prog pf 138 = some a138 := by kernel_rfl
theorem t139 : trFunc Try.prog pf 139 = some a139 := by kernel_rfl
theorem t140 : trFunc Try.prog pf 140 = some a140 := by kernel_rfl
theorem t141 : trFunc Try.prog pf 141 = some a141 := by kernel_rfl

end Go.Proofs.Ytcmhnincbkbncaa.Fn
namespace Go.Proofs.Ytcmhnincbkbncaa.Fn
open Go.AM
set_option maxRecDepth 100000

theorem t142 : trFunc Try.prog pf 142 = some a142 := by kernel_rfl

end Go.Proofs.Ytcmhnincbkbncaa.Fn
namespace Go.Proofs.Ytcmhnincbkbncaa.Fn
open Go.AM
set_option maxRecDepth 100000

def E0 : Env := ⟨tr, pf, fun _ _ => none⟩
theorem tr_ok (g : FuncId) (af : AFunc) (h : tr g = some af) : trFunc Try.prog pf g = some af := by
  unfold tr table at h
  simp only [List.lookup] at h
  split at h
  · rename_i e; cases h; rw [beq_iff_eq.1 e]; exact t4
  split at h
  · rename_i e; cases h; rw [beq_iff_eq.1 e]; exact t5
  split at h
  · rename_i e; cases h; rw [beq_iff_eq.1 e]; exact t6
  split at h
  · rename_i e; cases h; rw [beq_iff_eq.1 e]; exact t7
  split at h
  · rename_i e; cases h; rw [beq_iff_eq.1 e]; exact t9
  split at h
  · rename_i e; cases h; rw [beq_iff_eq.1 e]; exact t10
  split at h
  · rename_i e; cases h; rw [beq_iff_eq.1 e]; exact t17
  split at h
  · rename_i e; cases h; rw [beq_iff_eq.1 e]; exact t21
  split at h
  · rename_i e; cases h; rw [beq_iff_eq.1 e]; exact t22
  split at h
  · rename_i e; cases h; rw [beq_iff_eq.1 e]; exact t23
  split at h
  · rename_i e; cases h; rw [beq_iff_eq.1 e]; exact t24
  split at h
  · rename_i e; cases h; rw [beq_iff_eq.1 e]; exact t25
  split at h
  · rename_i e; cases h; rw [beq_iff_eq.1 e]; exact t26
  split at h
  · rename_i e; cases h; rw [beq_iff_eq.1 e]; exact t27
  split at h
  · rename_i e; cases h; rw [beq_iff_eq.1 e]; exact t28
  split at h
  · rename_i e; cases h; rw [beq_iff_eq.1 e]; exact t29
  split at h
  · rename_i e; cases h; rw [beq_iff_eq.1 e]; exact t30
  split at h
  · rename_i e; cases h; rw [beq_iff_eq.1 e]; exact t31
  split at h
  · rename_i e; cases h; rw [beq_iff_eq.1 e]; exact t32
  split at h
  · rename_i e; cases h; rw [beq_iff_eq.1 e]; exact t33
  split at h
  · rename_i e; cases h; rw [beq_iff_eq.1 e]; exact t35
  split at h
  · rename_i e; cases h; rw [beq_iff_eq.1 e]; exact t36
  split at h
  · rename_i e; cases h; rw [beq_iff_eq.1 e]; exact t55
  split at h
  · rename_i e; cases h; rw [beq_iff_eq.1 e]; exact t60
  split at h
  · rename_i e; cases h; rw [beq_iff_eq.1 e]; exact t61
  split at h
  · rename_i e; cases h; rw [beq_iff_eq.1 e]; exact t62
  split at h
  · rename_i e; cases h; rw [beq_iff_eq.1 e]; exact t63
  split at h
  · rename_i e; cases h; rw [beq_iff_eq.1 e]; exact t64
  split at h
  · rename_i e; cases h; rw [beq_iff_eq.1 e]; exact t65
  split at h
  · rename_i e; cases h; rw [beq_iff_eq.1 e]; exact t66
  split at h
  · rename_i e; cases h; rw [beq_iff_eq.1 e]; exact t67
  split at h
  · rename_i e; cases h; rw [beq_iff_eq.1 e]; exact t68
  split at h
  · rename_i e; cases h; rw [beq_iff_eq.1 e]; exact t69
  split at h
  · rename_i e; cases h; rw [beq_iff_eq.1 e]; exact t70
  split at h
  · rename_i e; cases h; rw [beq_iff_eq.1 e]; exact t71
  split at h
  · rename_i e; cases h; rw [beq_iff_eq.1 e]; exact t72
  split at h
  · rename_i e; cases h; rw [beq_iff_eq.1 e]; exact t73
  split at h
  · rename_i e; cases h; rw [beq_iff_eq.1 e]; exact t74
  split at h
  · rename_i e; cases h; rw [beq_iff_eq.1 e]; exact t75
  split at h
  · rename_i e; cases h; rw [beq_iff_eq.1 e]; exact t76
  split at h
  · rename_i e; cases h; rw [beq_iff_eq.1 e]; exact t77
  split at h
  · rename_i e; cases h; rw [beq_iff_eq.1 e]; exact t78
  split at h
  · rename_i e; cases h; rw [beq_iff_eq.1 e]; exact t79
  split at h
  · rename_i e; cases h; rw [beq_iff_eq.1 e]; exact t96
  split at h
  · rename_i e; cases h; rw [beq_iff_eq.1 e]; exact t101
  split at h
  · rename_i e; cases h; rw [beq_iff_eq.1 e]; exact t102
  split at h
  · rename_i e; cases h; rw [beq_iff_eq.1 e]; exact t103
  split at h
  · rename_i e; cases h; rw [beq_iff_eq.1 e]; exact t104
  split at h
  · rename_i e; cases h; rw [beq_iff_eq.1 e]; exact t105
  split at h
  · rename_i e; cases h; rw [beq_iff_eq.1 e]; exact t106
  split at h
  · rename_i e; cases h; rw [beq_iff_eq.1 e]; exact t107
  split at h
  · rename_i e; cases h; rw [beq_iff_eq.1 e]; exact t108
  split at h
  · rename_i e; cases h; rw [beq_iff_eq.1 e]; exact t109
  split at h
  · rename_i e; cases h; rw [beq_iff_eq.1 e]; exact t120
  split at h
  · rename_i e; cases h; rw [beq_iff_eq.1 e]; exact t121
  split at h
  · rename_i e; cases h; rw [beq_iff_eq.1 e]; exact t122
  split at h
  · rename_i e; cases h; rw [beq_iff_eq.1 e]; exact t123
  split at h
  · rename_i e; cases h; rw [beq_iff_eq.1 e]; exact t125
  split at h
  · rename_i e; cases h; rw [beq_iff_eq.1 e]; exact t126
  split at h
  · rename_i e; cases h; rw [beq_iff_eq.1 e]; exact t127
  split at h
  · rename_i e; cases h; rw [beq_iff_eq.1 e]; exact t128
  split at h
  · rename_i e; cases h; rw [beq_iff_eq.1 e]; exact t129
  split at h
  · rename_i e; cases h; rw [beq_iff_eq.1 e]; exact t130
  split at h
  · rename_i e; cases h; rw [beq_iff_eq.1 e]; exact t131
  split at h
  · rename_i e; cases h; rw [beq_iff_eq.1 e]; exact t132
  split at h
  · rename_i e; cases h; rw [beq_iff_eq.1 e]; exact t133
  split at h
  · rename_i e; cases h; rw [beq_iff_eq.1 e]; exact t134
  split at h
  · rename_i e; cases h; rw [beq_iff_eq.1 e]; exact t137
  split at h
  · rename_i e; cases h; rw [beq_iff_eq.1 e]; exact t138
  split at h
  · rename_i e; cases h; rw [beq_iff_eq.1 e]; exact t139
  split at h
  · rename_i e; cases h; rw [beq_iff_eq.1 e]; exact t140
  split at h
  · rename_i e; cases h; rw [beq_iff_eq.1 e]; exact t141
  split at h
  · rename_i e; cases h; rw [beq_iff_eq.1 e]; exact t142
  cases h
theorem ok0 : EnvOk Try.prog E0 := ⟨tr_ok, (fun _ _ _ h => by cases h), (fun _ _ _ h => by cases h), (fun _ _ _ h => by cases h), by kernel_rfl⟩

end Go.Proofs.Ytcmhnincbkbncaa.Fn
namespace Go.Proofs.Ytcmhnincbkbncaa
open Go.AM Go.RowKit
set_option maxRecDepth 100000
set_option linter.unusedVariables false
set_option linter.unusedSimpArgs false
set_option maxHeartbeats 4000000

abbrev off : Fn.OB := ⟨fun _ => false⟩
abbrev on33 : Fn.OB := ⟨fun g => g == 21⟩
theorem E_off : @Fn.E off = Fn.E0 := by
  unfold Fn.E Fn.E0
  congr 1
  funext g xs
  unfold Fn.orc
  rw [if_neg fun h => by cases h.2.1]
theorem awake33_run : ∃ n, aCall Fn.E0 n false 0 (.inl 21) [] [] = some (.bool true, []) := by
  have h : CallR (@Fn.E off) false 0 21 [] [] (fun v H' => v = .bool true ∧ H' = []) := by
    rw [@Fn.awake33_go off false 0 [] _ rfl]
    exact ⟨rfl, rfl⟩
  rw [E_off] at h
  obtain ⟨n, v, H', h1, rfl, rfl⟩ := h
  exact ⟨n, h1⟩
theorem awake_calls {g : FuncId} (hr : ∃ n, aCall Fn.E0 n false 0 (.inl g) [] [] = some (.bool true, [])) (w : World) : Calls Try.prog g #[] w fun e w' => e = .returned (.bool true) ∧ Below w.heap.size w w' := by
  obtain ⟨n, h⟩ := hr
  refine ((callOk Fn.ok0 n).calls _ _ _ _ _ _ _ h (Nat.le_refl _) _ _ w [] (Inv.nil (P := Try.prog) (E := Fn.E0) w) LRel.nil).mono fun e w' hp => ?_
  obtain ⟨v', σ', rfl, hv, _, hst, _⟩ := hp
  rw [hv.bool_left]
  exact ⟨rfl, hst.os, hst.tape, hst.output, hst.size, fun k hk => hst.block k (by omega)⟩
theorem fn_of {g : FuncId} (hr : ∃ n, aCall Fn.E0 n false 0 (.inl g) [] [] = some (.bool true, [])) : ∃ fn, Try.prog.funcs[g]? = some fn ∧ fn.body.isSome = true ∧ (fn.name == "runtime.NumGoroutine") = false := by
  obtain ⟨n, h⟩ := hr
  exact (callOk Fn.ok0 n).fn _ _ _ _ _ _ _ h
theorem okE33 : EnvOk Try.prog (@Fn.E on33) := by
  have key : ∀ g xs v, (@Fn.E on33).orc g xs = some v → (∃ n, aCall Fn.E0 n false 0 (.inl g) [] [] = some (.bool true, [])) ∧ xs = [] ∧ v = .bool true := by
    intro g xs v h
    simp only [Fn.E, Fn.orc] at h
    split at h
    · rename_i hc; cases h
      have hg : (g == 21) = true := hc.2.1
      rw [beq_iff_eq] at hg
      subst hg
      exact ⟨awake33_run, hc.2.2, rfl⟩
    · cases h
  refine ⟨Fn.tr_ok, fun g xs v h => ?_, fun g xs v h w => ?_, fun g xs v h σ => ?_, Fn.ok0.mixed⟩
  · obtain ⟨hr, rfl, rfl⟩ := key g xs v h; exact fn_of hr
  · obtain ⟨hr, rfl, rfl⟩ := key g xs v h; exact awake_calls hr w
  · obtain ⟨hr, rfl, rfl⟩ := key g xs v h; exact .atom rfl
theorem own : ownKnob Try.prog.godebug = none := by kernel_rfl
theorem laidOut : laidOutB Try.prog = true := by kernel_rfl

/-! ### Arguments -/
abbrev tLeg : Ty := .pair (.int .i64) (.pair (.int .i64) (.pair (.int .i64) (.pair (.int .i64) (.pair (.int .i64) (.pair (.int .i64) (.pair (.int .i64) (.pair (.int .u8) .nil)))))))
def toLeg (x : tLeg.den) : Go.Net.Leg := ⟨x.1, x.2.1, x.2.2.1, x.2.2.2.1, x.2.2.2.2.1, x.2.2.2.2.2.1, x.2.2.2.2.2.2.1, x.2.2.2.2.2.2.2.1⟩
theorem leg_enc (H : Heap) (x : tLeg.den) (c : List Value) (h : Rep tLeg H x c) : c = Fn.encL (toLeg x) := by
  obtain ⟨c1, r1, rfl, h1, c2, r2, rfl, h2, c3, r3, rfl, h3, c4, r4, rfl, h4, c5, r5, rfl, h5, c6, r6, rfl, h6, c7, r7, rfl, h7, c8, r8, rfl, h8, h9⟩ := h
  simp only [Rep] at h1 h2 h3 h4 h5 h6 h7 h8 h9
  rw [h1.1, h2.1, h3.1, h4.1, h5.1, h6.1, h7.1, h8.1, h9]
  rfl
theorem leg_by (H : Heap) (x : tLeg.den) (c : List Value) (h : Rep tLeg H x c) : Fn.By (toLeg x) := by
  obtain ⟨c1, r1, rfl, h1, c2, r2, rfl, h2, c3, r3, rfl, h3, c4, r4, rfl, h4, c5, r5, rfl, h5, c6, r6, rfl, h6, c7, r7, rfl, h7, c8, r8, rfl, h8, h9⟩ := h
  simp only [Rep] at h8
  exact ⟨h8.2.1, h8.2.2⟩
theorem int_enc (H : Heap) (x : (Ty.int .i64).den) (c : List Value) (h : Rep (.int .i64) H x c) : c = Fn.encI (id x) := h.1
abbrev tNet : Ty := .pair (.slice (.int .i64)) (.pair (.slice tLeg) .nil)
theorem net_arg {H : Heap} {x : tNet.den} {v : Value} (h : RepV tNet H x v) : ∃ pp cp pl cl, ∃ (P : List Int) (L : List Go.Net.Leg), v = .agg (Fn.netV pp P.length cp pl L.length cl).toArray ∧ Fn.NetIn H pp pl P L ∧ CapOk 8 cl L.length ∧ CapOk 1 cp P.length := by
  obtain ⟨cs, rfl, hr⟩ := h.row rfl
  obtain ⟨c1, r1, rfl, h1, c2, r2, rfl, h2, h3⟩ := hr
  have e3 := Rep.nil_of h3
  subst e3
  obtain ⟨p0, j1, e1, _⟩ := Rep.sl (t := .int .i64) id Fn.encI int_enc h1
  obtain ⟨q0, j2, e2, _⟩ := Rep.sl (t := tLeg) toLeg Fn.encL leg_enc h2
  have a1 : RepV (.slice (.int .i64)) H x.1 (.slice p0 (List.map id x.1).length j1) := by unfold RepV; rw [if_neg (by decide), ← e1]; exact h1
  have a2 : RepV (.slice tLeg) H x.2.1 (.slice q0 (List.map toLeg x.2.1).length j2) := by unfold RepV; rw [if_neg (by decide), ← e2]; exact h2
  obtain ⟨p, k1, d1, s1, q1, l1⟩ := slice_arg (t := .int .i64) id Fn.encI int_enc a1
  obtain ⟨q, k2, d2, s2, q2, l2⟩ := slice_arg (t := tLeg) toLeg Fn.encL leg_enc a2
  rw [d1] at e1
  rw [d2] at e2
  refine ⟨p, k1, q, k2, _, _, ?_, ⟨s1, s2, l1, l2, fun l hl => ?_⟩, q2, q1⟩
  · rw [e1, e2]; rfl
  · obtain ⟨y, hy, rfl⟩ := List.mem_map.1 hl
    obtain ⟨c, hc⟩ := Rep.slice_mem h2 y hy
    exact leg_by H y c hc
theorem int_arg {k : IntKind} {H : Heap} {n : Int} {v : Value} (h : RepV (.int k) H n v) : v = .int k n ∧ k.min ≤ n ∧ n ≤ k.max := by
  unfold RepV at h
  rw [if_neg (by simp [isRow])] at h
  obtain ⟨e, h⟩ := h
  cases e
  exact ⟨rfl, h⟩
end Go.Proofs.Ytcmhnincbkbncaa
