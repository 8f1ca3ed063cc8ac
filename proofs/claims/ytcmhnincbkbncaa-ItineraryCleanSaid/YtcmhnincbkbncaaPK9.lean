/-
  Joined texts, 9 of 9. A part of the claim that the last text states.
-/
import Derived.Test.YtcmhnincbkbncaaProg
import Derived.Test.YtcmhnincbkbncaaRows
import Derived.Test.YtcmhnincbkbncaaPK8
namespace Go.Proofs.Ytcmhnincbkbncaa.Fn
open Go.AM
set_option maxRecDepth 100000
theorem t16 : trFunc Try.prog pf 16 = some a16 := by kernel_rfl
theorem t22 : trFunc Try.prog pf 22 = some a22 := by kernel_rfl
theorem t23 : trFunc Try.prog pf 23 = some a23 := by kernel_rfl
theorem t24 : trFunc Try.prog pf 24 = some a24 := by kernel_rfl
theorem t25 : trFunc Try.prog pf 25 = some a25 := by kernel_rfl
theorem t28 : trFunc Try.prog pf 28 = some a28 := by kernel_rfl
theorem t30 : trFunc Try.prog pf 30 = some a30 := by kernel_rfl
theorem t32 : trFunc Try.prog pf 32 = some a32 := by kernel_rfl
theorem t35 : trFunc Try.prog pf 35 = some a35 := by kernel_rfl
theorem t38 : trFunc Try.prog pf 38 = some a38 := by kernel_rfl
theorem t41 : trFunc Try.prog pf 41 = some a41 := by kernel_rfl
theorem t42 : trFunc Try.prog pf 42 = some a42 := by kernel_rfl
theorem t45 : trFunc Try.prog pf 45 = some a45 := by kernel_rfl
theorem t53 : trFunc Try.prog pf 53 = some a53 := by kernel_rfl
theorem t54 : trFunc Try.prog pf 54 = some a54 := by kernel_rfl
theorem t55 : trFunc Try.prog pf 55 = some a55 := by kernel_rfl
theorem t56 : trFunc Try.prog pf 56 = some a56 := by kernel_rfl
theorem t61 : trFunc Try.prog pf 61 = some a61 := by kernel_rfl
theorem t62 : trFunc Try.prog pf 62 = some a62 := by kernel_rfl
theorem t63 : trFunc Try.prog pf 63 = some a63 := by kernel_rfl
theorem t64 : trFunc Try.prog pf 64 = some a64 := by kernel_rfl
theorem t65 : trFunc Try.prog pf 65 = some a65 := by kernel_rfl
theorem t66 : trFunc Try.prog pf 66 = some a66 := by kernel_rfl
theorem t67 : trFunc Try.prog pf 67 = some a67 := by kernel_rfl
theorem t68 : trFunc Try.prog pf 68 = some a68 := by kernel_rfl
theorem t69 : trFunc Try.prog pf 69 = some a69 := by kernel_rfl
theorem t71 : trFunc Try.prog pf 71 = some a71 := by kernel_rfl
theorem t72 : trFunc Try.prog pf 72 = some a72 := by kernel_rfl
theorem t73 : trFunc Try.prog pf 73 = some a73 := by kernel_rfl
theorem t74 : trFunc Try.prog pf 74 = some a74 := by kernel_rfl
theorem t75 : trFunc Try.prog pf 75 = some a75 := by kernel_rfl
theorem t76 : trFunc Try.prog pf 76 = some a76 := by kernel_rfl
theorem t77 : trFunc Try.prog pf 77 = some a77 := by kernel_rfl
theorem t78 : trFunc Try.prog pf 78 = some a78 := by kernel_rfl
theorem t79 : trFunc Try.prog pf 79 = some a79 := by kernel_rfl
theorem t83 : trFunc Try.prog pf 83 = some a83 := by kernel_rfl
theorem t86 : trFunc Try.prog pf 86 = some a86 := by kernel_rfl
theorem t87 : trFunc Try.prog pf 87 = some a87 := by kernel_rfl
theorem t88 : trFunc Try.prog pf 88 = some a88 := by kernel_rfl
theorem t89 : trFunc Try.prog pf 89 = some a89 := by kernel_rfl
theorem t92 : trFunc Try.prog pf 92 = some a92 := by kernel_rfl
theorem t96 : trFunc Try.prog pf 96 = some a96 := by kernel_rfl
theorem t101 : trFunc Try.prog pf 101 = some a101 := by kernel_rfl
theorem t102 : trFunc Try.prog pf 102 = some a102 := by kernel_rfl
theorem t103 : trFunc Try.prog pf 103 = some a103 := by kernel_rfl
theorem t105 : trFunc Try.prog pf 105 = some a105 := by kernel_rfl
theorem t106 : trFunc Try.prog pf 106 = some a106 := by kernel_rfl
theorem t107 : trFunc Try.prog pf 107 = some a107 := by kernel_rfl
theorem t108 : trFunc Try.prog pf 108 = some a108 := by kernel_rfl
theorem t109 : trFunc Try.prog pf 109 = some a109 := by kernel_rfl
theorem t114 : trFunc Try.prog pf 114 = some a114 := by kernel_rfl
theorem t115 : trFunc Try.prog pf 115 = some a115 := by kernel_rfl
theorem t117 : trFunc Try.prog pf 117 = some a117 := by kernel_rfl
theorem t118 : trFunc Try.prog pf 118 = some a118 := by kernel_rfl
theorem t120 : trFunc Try.prog pf 120 = some a120 := by kernel_rfl
theorem t121 : trFunc Try.prog pf 121 = some a121 := by kernel_rfl
theorem t122 : trFunc Try.prog pf 122 = some a122 := by kernel_rfl
theorem t123 : trFunc Try.prog pf 123 = some a123 := by kernel_rfl
theorem t124 : trFunc Try.prog pf 124 = some a124 := by kernel_rfl
theorem t125 : trFunc Try.prog pf 125 = some a125 := by kernel_rfl
theorem t126 : trFunc Try.prog pf 126 = some a126 := by kernel_rfl
theorem t127 : trFunc Try.prog pf 127 = some a127 := by kernel_rfl
theorem t128 : trFunc Try.prog pf 128 = some a128 := by kernel_rfl
theorem t129 : trFunc Try.prog pf 129 = some a129 := by kernel_rfl
theorem t130 : trFunc Try.prog pf 130 = some a130 := by kernel_rfl
theorem t131 : trFunc Try.prog pf 131 = some a131 := by kernel_rfl
theorem t132 : trFunc Try.prog pf 132 = some a132 := by kernel_rfl
theorem t133 : trFunc Try.prog pf 133 = some a133 := by kernel_rfl
theorem t134 : trFunc Try.prog pf 134 = some a134 := by kernel_rfl
theorem t135 : trFunc Try.prog pf 135 = some a135 := by kernel_rfl
theorem t136 : trFunc Try.prog pf 136 = some a136 := by kernel_rfl
theorem t137 : trFunc Try.prog pf 137 = some a137 := by kernel_rfl
theorem t138 : trFunc Try.prog pf 138 = some a138 := by kernel_rfl
theorem t139 : trFunc Try.prog pf 139 = some a139 := by kernel_rfl
theorem t140 : trFunc Try.prog pf 140 = some a140 := by kernel_rfl
theorem t141 : trFunc Try.prog pf 141 = some a141 := by kernel_rfl
theorem t142 : trFunc Try.prog pf 142 = some a142 := by kernel_rfl
def E0 : Env := ⟨tr, pf, fun _ _ => none⟩
theorem tr_ok (g : FuncId) (af : AFunc) (h : tr g = some af) : trFunc Try.prog pf g = some af := by
  unfold tr table at h
  simp only [List.lookup] at h
  split at h
  · rename_i e; cases h; rw [beq_iff_eq.1 e]; exact t16
  split at h
  · rename_i e; cases h; rw [beq_iff_eq.1 e]; exact t22
  split at h
  · rename_i e; cases h; rw [beq_iff_eq.1 e]; exact t23
  split at h
  · rename_i e; cases h; rw [beq_iff_eq.1 e]; exact t24
  split at h
  · rename_i e; cases h; rw [beq_iff_eq.1 e]; exact t25
  split at h
  · rename_i e; cases h; rw [beq_iff_eq.1 e]; exact t28
  split at h
  · rename_i e; cases h; rw [beq_iff_eq.1 e]; exact t30
  split at h
  · rename_i e; cases h; rw [beq_iff_eq.1 e]; exact t32
  split at h
  · rename_i e; cases h; rw [beq_iff_eq.1 e]; exact t35
  split at h
  · rename_i e; cases h; rw [beq_iff_eq.1 e]; exact t38
  split at h
  · rename_i e; cases h; rw [beq_iff_eq.1 e]; exact t41
  split at h
  · rename_i e; cases h; rw [beq_iff_eq.1 e]; exact t42
  split at h
  · rename_i e; cases h; rw [beq_iff_eq.1 e]; exact t45
  split at h
  · rename_i e; cases h; rw [beq_iff_eq.1 e]; exact t53
  split at h
  · rename_i e; cases h; rw [beq_iff_eq.1 e]; exact t54
  split at h
  · rename_i e; cases h; rw [beq_iff_eq.1 e]; exact t55
  split at h
  · rename_i e; cases h; rw [beq_iff_eq.1 e]; exact t56
  split at h
  · rename_i e; cases h; rw [beq_iff_eq.1 e]; exact t61
  split at h
  · rename_i e; cases h; rw [beq_iff_eq.1 e]; exact t62
  split at h
  · rename_i e; cases h; rw [beq_iff_eq.1 e]; exact t63
  split at h
  · rename_i e; cases h; rw [beq_iff_eq.1 e]; exact t64
  split at h
  · rename_i e; cases h; rw [beq_iff_eq.1 e]; exact t65
  split at h
  · rename_i e; cases h; rw [beq_iff_eq.1 e]; exact t66
  split at h
  · rename_i e; cases h; rw [beq_iff_eq.1 e]; exact t67
  split at h
  · rename_i e; cases h; rw [beq_iff_eq.1 e]; exact t68
  split at h
  · rename_i e; cases h; rw [beq_iff_eq.1 e]; exact t69
  split at h
  · rename_i e; cases h; rw [beq_iff_eq.1 e]; exact t71
  split at h
  · rename_i e; cases h; rw [beq_iff_eq.1 e]; exact t72
  split at h
  · rename_i e; cases h; rw [beq_iff_eq.1 e]; exact t73
  split at h
  · rename_i e; cases h; rw [beq_iff_eq.1 e]; exact t74
  split at h
  · rename_i e; cases h; rw [beq_iff_eq.1 e]; exact t75
  split at h
  · rename_i e; cases h; rw [beq_iff_eq.1 e]; exact t76
  split at h
  · rename_i e; cases h; rw [beq_iff_eq.1 e]; exact t77
  split at h
  · rename_i e; cases h; rw [beq_iff_eq.1 e]; exact t78
  split at h
  · rename_i e; cases h; rw [beq_iff_eq.1 e]; exact t79
  split at h
  · rename_i e; cases h; rw [beq_iff_eq.1 e]; exact t83
  split at h
  · rename_i e; cases h; rw [beq_iff_eq.1 e]; exact t86
  split at h
  · rename_i e; cases h; rw [beq_iff_eq.1 e]; exact t87
  split at h
  · rename_i e; cases h; rw [beq_iff_eq.1 e]; exact t88
  split at h
  · rename_i e; cases h; rw [beq_iff_eq.1 e]; exact t89
  split at h
  · rename_i e; cases h; rw [beq_iff_eq.1 e]; exact t92
  split at h
  · rename_i e; cases h; rw [beq_iff_eq.1 e]; exact t96
  split at h
  · rename_i e; cases h; rw [beq_iff_eq.1 e]; exact t101
  split at h
  · rename_i e; cases h; rw [beq_iff_eq.1 e]; exact t102
  split at h
  · rename_i e; cases h; rw [beq_iff_eq.1 e]; exact t103
  split at h
  · rename_i e; cases h; rw [beq_iff_eq.1 e]; exact t105
  split at h
  · rename_i e; cases h; rw [beq_iff_eq.1 e]; exact t106
  split at h
  · rename_i e; cases h; rw [beq_iff_eq.1 e]; exact t107
  split at h
  · rename_i e; cases h; rw [beq_iff_eq.1 e]; exact t108
  split at h
  · rename_i e; cases h; rw [beq_iff_eq.1 e]; exact t109
  split at h
  · rename_i e; cases h; rw [beq_iff_eq.1 e]; exact t114
  split at h
  · rename_i e; cases h; rw [beq_iff_eq.1 e]; exact t115
  split at h
  · rename_i e; cases h; rw [beq_iff_eq.1 e]; exact t117
  split at h
  · rename_i e; cases h; rw [beq_iff_eq.1 e]; exact t118
  split at h
  · rename_i e; cases h; rw [beq_iff_eq.1 e]; exact t120
  split at h
  · rename_i e; cases h; rw [beq_iff_eq.1 e]; exact t121
  split at h
  · rename_i e; cases h; rw [beq_iff_eq.1 e]; exact t122
  split at h
  · rename_i e; cases h; rw [beq_iff_eq.1 e]; exact t123
  split at h
  · rename_i e; cases h; rw [beq_iff_eq.1 e]; exact t124
  split at h
  · rename_i e; cases h; rw [beq_iff_eq.1 e]; exact t125
  split at h
  · rename_i e; cases h; rw [beq_iff_eq.1 e]; exact t126
  split at h
  · rename_i e; cases h; rw [beq_iff_eq.1 e]; exact t127
  split at h
  · rename_i e; cases h; rw [beq_iff_eq.1 e]; exact t128
  split at h
  · rename_i e; cases h; rw [beq_iff_eq.1 e]; exact t129
  split at h
  · rename_i e; cases h; rw [beq_iff_eq.1 e]; exact t130
  split at h
  · rename_i e; cases h; rw [beq_iff_eq.1 e]; exact t131
  split at h
  · rename_i e; cases h; rw [beq_iff_eq.1 e]; exact t132
  split at h
  · rename_i e; cases h; rw [beq_iff_eq.1 e]; exact t133
  split at h
  · rename_i e; cases h; rw [beq_iff_eq.1 e]; exact t134
  split at h
  · rename_i e; cases h; rw [beq_iff_eq.1 e]; exact t135
  split at h
  · rename_i e; cases h; rw [beq_iff_eq.1 e]; exact t136
  split at h
  · rename_i e; cases h; rw [beq_iff_eq.1 e]; exact t137
  split at h
  · rename_i e; cases h; rw [beq_iff_eq.1 e]; exact t138
  split at h
  · rename_i e; cases h; rw [beq_iff_eq.1 e]; exact t139
  split at h
  · rename_i e; cases h; rw [beq_iff_eq.1 e]; exact t140
  split at h
  · rename_i e; cases h; rw [beq_iff_eq.1 e]; exact t141
  split at h
  · rename_i e; cases h; rw [beq_iff_eq.1 e]; exact t142
  cases h
theorem ok0 : EnvOk Try.prog E0 := ⟨tr_ok, (fun _ _ _ h => by cases h), (fun _ _ _ h => by cases h), (fun _ _ _ h => by cases h), by kernel_rfl⟩
end Go.Proofs.Ytcmhnincbkbncaa.Fn

namespace Go.Proofs.Ytcmhnincbkbncaa
open Go.AM Go.RowKit
set_option maxRecDepth 100000
set_option linter.unusedVariables false
set_option linter.unusedSimpArgs false
set_option maxHeartbeats 4000000
abbrev off : Fn.OB := ⟨fun _ => false⟩
abbrev on38 : Fn.OB := ⟨fun g => g == 38⟩
theorem E_off : @Fn.E off = Fn.E0 := by
  unfold Fn.E Fn.E0
  congr 1
  funext g xs
  unfold Fn.orc
  rw [if_neg fun h => by cases h.2.1]
theorem awake38_run : ∃ n, aCall Fn.E0 n false 0 (.inl 38) [] [] = some (.bool true, []) := by
  have h : CallR (@Fn.E off) false 0 38 [] [] (fun v H' => v = .bool true ∧ H' = []) := by
    rw [@Fn.awake38_go off false 0 [] _ rfl]
    exact ⟨rfl, rfl⟩
  rw [E_off] at h
  obtain ⟨n, v, H', h1, rfl, rfl⟩ := h
  exact ⟨n, h1⟩
theorem awake_calls {g : FuncId} (hr : ∃ n, aCall Fn.E0 n false 0 (.inl g) [] [] = some (.bool true, [])) (w : World) : Calls Try.prog g #[] w fun e w' => e = .returned (.bool true) ∧ Below w.heap.size w w' := by
  obtain ⟨n, h⟩ := hr
  refine ((callOk Fn.ok0 n).calls _ _ _ _ _ _ _ h (Nat.le_refl _) _ _ w [] (Inv.nil (P := Try.prog) (E := Fn.E0) w) LRel.nil).mono fun e w' hp => ?_
  obtain ⟨v', σ', rfl, hv, _, hst, _⟩ := hp
  rw [hv.bool_left]
  exact ⟨rfl, hst.os, hst.tape, hst.output, hst.size, fun k hk => hst.block k (by omega)⟩
theorem fn_of {g : FuncId} (hr : ∃ n, aCall Fn.E0 n false 0 (.inl g) [] [] = some (.bool true, [])) : ∃ fn, Try.prog.funcs[g]? = some fn ∧ fn.body.isSome = true ∧ (fn.name == "runtime.NumGoroutine") = false := by
  obtain ⟨n, h⟩ := hr
  exact (callOk Fn.ok0 n).fn _ _ _ _ _ _ _ h
theorem okE38 : EnvOk Try.prog (@Fn.E on38) := by
  have key : ∀ g xs v, (@Fn.E on38).orc g xs = some v → (∃ n, aCall Fn.E0 n false 0 (.inl g) [] [] = some (.bool true, [])) ∧ xs = [] ∧ v = .bool true := by
    intro g xs v h
    simp only [Fn.E, Fn.orc] at h
    split at h
    · rename_i hc; cases h
      have hg : (g == 38) = true := hc.2.1
      rw [beq_iff_eq] at hg
      subst hg
      exact ⟨awake38_run, hc.2.2, rfl⟩
    · cases h
  refine ⟨Fn.tr_ok, fun g xs v h => ?_, fun g xs v h w => ?_, fun g xs v h σ => ?_, Fn.ok0.mixed⟩
  · obtain ⟨hr, rfl, rfl⟩ := key g xs v h; exact fn_of hr
  · obtain ⟨hr, rfl, rfl⟩ := key g xs v h; exact awake_calls hr w
  · obtain ⟨hr, rfl, rfl⟩ := key g xs v h; exact .atom rfl
theorem own : ownKnob Try.prog.godebug = none := by kernel_rfl
theorem laidOut : laidOutB Try.prog = true := by kernel_rfl
abbrev tRaw : Ty := .pair (.int .u8) (.pair (.int .u8) (.pair (.int .u8) (.pair (.int .u8) (.pair (.int .u8) (.pair (.int .u8) .nil)))))
def toRaw (x : tRaw.den) : Fn.RL := ⟨x.1, x.2.1, x.2.2.1, x.2.2.2.1, x.2.2.2.2.1, x.2.2.2.2.2.1⟩
theorem raw_enc (H : Heap) (x : tRaw.den) (c : List Value) (h : Rep tRaw H x c) : c = Fn.encR (toRaw x) := by
  obtain ⟨c1, r1, rfl, h1, c2, r2, rfl, h2, c3, r3, rfl, h3, c4, r4, rfl, h4, c5, r5, rfl, h5, c6, r6, rfl, h6, h7⟩ := h
  simp only [Rep] at h1 h2 h3 h4 h5 h6 h7
  rw [h1.1, h2.1, h3.1, h4.1, h5.1, h6.1, h7]
  rfl
theorem raw_by (H : Heap) (x : tRaw.den) (c : List Value) (h : Rep tRaw H x c) : Fn.ByR (toRaw x) := by
  obtain ⟨c1, r1, rfl, h1, c2, r2, rfl, h2, c3, r3, rfl, h3, c4, r4, rfl, h4, c5, r5, rfl, h5, c6, r6, rfl, h6, h7⟩ := h
  simp only [Rep] at h1 h2 h3 h4 h5 h6
  exact ⟨⟨h1.2.1, h1.2.2⟩, ⟨h2.2.1, h2.2.2⟩, ⟨h3.2.1, h3.2.2⟩, ⟨h4.2.1, h4.2.2⟩, ⟨h5.2.1, h5.2.2⟩, ⟨h6.2.1, h6.2.2⟩⟩
theorem raws_arg {H : Heap} {l : List tRaw.den} {v : Value} (h : RepV (.slice tRaw) H l v) : ∃ p k, ∃ rs : List Fn.RL, v = .slice p rs.length k ∧ Sl H Fn.encR 6 p rs ∧ (∀ x ∈ rs, Fn.ByR x) ∧ CapOk 6 k rs.length ∧ rs.length < 2 ^ 63 := by
  obtain ⟨p, k, e, h1, h3, h2⟩ := slice_arg (t := tRaw) toRaw Fn.encR raw_enc h
  refine ⟨p, k, _, e, h1, fun x hx => ?_, h3, h2⟩
  obtain ⟨y, hy, rfl⟩ := List.mem_map.1 hx
  obtain ⟨c, hc⟩ := Rep.slice_mem (h.one rfl) y hy
  exact raw_by H y c hc
abbrev tLook : Ty := .pair (.int .u8) (.pair (.int .u8) (.pair (.int .u16) .nil))
def toLook (x : tLook.den) : Fn.Lk := ⟨x.1, x.2.1, x.2.2.1⟩
theorem look_enc (H : Heap) (x : tLook.den) (c : List Value) (h : Rep tLook H x c) : c = Fn.encK (toLook x) := by
  obtain ⟨c1, r1, rfl, h1, c2, r2, rfl, h2, c3, r3, rfl, h3, h4⟩ := h
  simp only [Rep] at h1 h2 h3 h4
  rw [h1.1, h2.1, h3.1, h4]
  rfl
theorem look_by (H : Heap) (x : tLook.den) (c : List Value) (h : Rep tLook H x c) : Fn.ByK (toLook x) := by
  obtain ⟨c1, r1, rfl, h1, c2, r2, rfl, h2, c3, r3, rfl, h3, h4⟩ := h
  simp only [Rep] at h1 h2 h3
  exact ⟨⟨h1.2.1, h1.2.2⟩, ⟨h2.2.1, h2.2.2⟩, ⟨h3.2.1, h3.2.2⟩⟩
theorem looks_arg {H : Heap} {l : List tLook.den} {v : Value} (h : RepV (.slice tLook) H l v) : ∃ p k, ∃ ls : List Fn.Lk, v = .slice p ls.length k ∧ Sl H Fn.encK 3 p ls ∧ (∀ x ∈ ls, Fn.ByK x) ∧ CapOk 3 k ls.length ∧ ls.length < 2 ^ 63 := by
  obtain ⟨p, k, e, h1, h3, h2⟩ := slice_arg (t := tLook) toLook Fn.encK look_enc h
  refine ⟨p, k, _, e, h1, fun x hx => ?_, h3, h2⟩
  obtain ⟨y, hy, rfl⟩ := List.mem_map.1 hx
  obtain ⟨c, hc⟩ := Rep.slice_mem (h.one rfl) y hy
  exact look_by H y c hc
theorem int_arg {k : IntKind} {H : Heap} {n : Int} {v : Value} (h : RepV (.int k) H n v) : v = .int k n ∧ k.min ≤ n ∧ n ≤ k.max := by
  unfold RepV at h
  rw [if_neg (by simp [isRow])] at h
  obtain ⟨e, h⟩ := h
  cases e
  exact ⟨rfl, h⟩
end Go.Proofs.Ytcmhnincbkbncaa

