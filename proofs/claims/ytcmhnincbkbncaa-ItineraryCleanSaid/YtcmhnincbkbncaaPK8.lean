/-
  Joined texts, 8 of 9. A part of the claim that the last text states.
-/
import Derived.Test.YtcmhnincbkbncaaPK7
namespace Go.Proofs.Ytcmhnincbkbncaa.Fn
open Go.AM Go.AM.Sym Go.Sort
set_option maxRecDepth 100000
set_option linter.unusedVariables false
set_option linter.unusedSimpArgs false
set_option maxHeartbeats 4000000
theorem part_stop {α : Type} [Inhabited α] {lt : α → α → Bool} {a i j i2 j2 : Nat} {d : Array α} (h1 : scanUp (fun x => lt x d[a]!) d j i = i2) (h2 : scanDown (fun x => !lt x d[a]!) d i2 j = j2) (h : i2 > j2) : partLoop lt a i j d = (j2, d) := by
  rw [partLoop]; simp only [h1, h2]; rw [if_pos h]
theorem part_next {α : Type} [Inhabited α] {lt : α → α → Bool} {a i j i2 j2 : Nat} {d : Array α} (h1 : scanUp (fun x => lt x d[a]!) d j i = i2) (h2 : scanDown (fun x => !lt x d[a]!) d i2 j = j2) (h : ¬ i2 > j2) (g1 : i ≤ i2) (g2 : j2 ≤ j) (g3 : 0 < i2) : partLoop lt a i j d = partLoop lt a (i2 + 1) (j2 - 1) (swp d i2 j2) := by
  rw [partLoop]; simp only [h1, h2]; rw [if_neg h, dif_pos (by omega)]
theorem part_sort [OB] {G X : Heap} {B lim cap n : Nat} {p : Option Addr} {c : Go.Net.Leg → Go.Net.Leg → Int} {cl : FuncId} {cs : List Value} {Q : Value → Heap → Prop} (hp : p = some ⟨B, 0, none⟩) (hB : B < G.length) (hl : lim ≤ B) (hn2 : n < 2 ^ 61) (hc : ∀ (mp : Bool) (lim : Nat) (x y : Go.Net.Leg) (H : Heap) (Q : Value → Heap → Prop), CallR E mp lim cl (.agg (encL x).toArray :: .agg (encL y).toArray :: cs) H Q = Q (.int .i64 (c x y)) H) {d : Array Go.Net.Leg} {a b v : Nat} (hd : d.size = n) (hb : b ≤ n) (hab : a ≤ v) (hvb : v < b) :
    CallR E false lim 132 [.slice p n cap, .int .i64 (a : Int), .int .i64 (b : Int), .int .i64 (v : Int), .func (.func cl) #[] cs.toArray] (DH encL G B d ++ X) Q = Q (.tuple #[.int .i64 ((Sort.partition (ltC c) d a b v).1 : Nat), .bool (Sort.partition (ltC c) d a b v).2.1]) (DH encL G B (Sort.partition (ltC c) d a b v).2.2 ++ X) := by
  refine runs (by decide) e132 rfl ?_
  rw [b132, c132]
  have hw0 : IntKind.i64.wrap ((b : Int) - 1) = ((b - 1 : Nat) : Int) := wrap_pred (by omega) (by omega)
  have hw1 : IntKind.i64.wrap ((a : Int) + 1) = ((a + 1 : Nat) : Int) := wrap_nat (by omega)
  generalize hT : Sort.partition (ltC c) d a b v = T
  rw [Sort.partition] at hT
  have ld := fun (i : Nat) (X : Heap) (d : Array Go.Net.Leg) (hd : d.size = n) (hi : i < n) => DH_ld (X := X) (d := d) (i := i) hp hB encL_len (by omega); have st := fun (i : Nat) (X : Heap) (d : Array Go.Net.Leg) (hd : d.size = n) (hi : i < n) (y : Go.Net.Leg) => DH_st (X := X) (d := d) (i := i) (y := y) hp hB hl encL_len (by omega); have ix := fun (i : Nat) (hi : i < n) c (k : IntKind) (H : Heap) => DH_idx (e := 8) (i := i) (n := n) (c := c) (k := k) (H := H) hp hi
  have i1 : a < n := by omega
  have i2 : v < n := by omega
  simp only [n132, r132, hw0, hw1, ld, st, ix, List.append_nil, Array.size_setIfInBounds, encL_len, hd, i1, i2, SB, Nat.reduceLT, callee, aOp, ne_eq, Nat.reduceEqDiff, aBin, aUn, if_true, if_false, reduceCtorEq, frame0, place, notTuple, Nat.reduceAdd, Nat.reduceLeDiff, resVal, dite_true, dite_false, Int.reduceEq, Int.reduceLT, Int.reduceLE]
  have hd0 : (swp d a v).size = n := by simp [swp, hd]
  have hswp : (d.setIfInBounds a d[v]!).setIfInBounds v d[a]! = swp d a v := rfl
  rw [hswp]
  generalize swp d a v = d1 at hT hd0
  have k0 : a + 1 ≤ b := by omega
  refine Ret_rounds (S := Nat) (fun s => b + 1 - s) (fun s fr H => (a + 1) ≤ s ∧ s ≤ (b - 1) + 1 ∧ fr 0 = .slice p n cap ∧ fr 1 = .int .i64 (a : Int) ∧ fr 4 = .func (.func cl) #[] cs.toArray ∧ fr 12 = .int .i64 (s : Int) ∧ fr 13 = .int .i64 ((b - 1 : Nat) : Int) ∧
    H = DH encL G B d1 ++ X ∧ scanUp (fun x => ltC c x d1[a]!) d1 (b - 1) (a + 1) = scanUp (fun x => ltC c x d1[a]!) d1 (b - 1) s) (a + 1) ⟨Nat.le_refl _, by omega, (by simp only [FB, Nat.reduceEqDiff]), (by simp only [FB, Nat.reduceEqDiff]), (by simp only [FB, Nat.reduceEqDiff]), (by simp only [FB, Nat.reduceEqDiff]), (by simp only [FB, Nat.reduceEqDiff]), rfl, rfl⟩ ?_
  rintro i' fr1 H1 ⟨x1, k2, q0, q1, q4, q12, q13, rfl, hs⟩ hM
  rw [Ret_code l132_5.eq_1]
  by_cases c1 : i' ≤ (b - 1) ∧ c d1[i']! d1[a]! < 0
  · obtain ⟨cc1, cc2⟩ := c1
    have hw2 : IntKind.i64.wrap ((i' : Int) + 1) = ((i' + 1 : Nat) : Int) := wrap_nat (by omega)
    have i3 : i' < n := by omega
    simp only [n132, r132, q0, q1, q4, q12, q13, cc1, cc2, hw2, ld, st, ix, List.append_nil, Array.size_setIfInBounds, encL_len, hd0, i1, i3, hc, SB, Nat.reduceLT, callee, aOp, ne_eq, Nat.reduceEqDiff, aBin, aUn, if_true, if_false, reduceCtorEq, frame0, place, notTuple, Nat.reduceAdd, Nat.reduceLeDiff, resVal, dite_true, dite_false, Int.reduceEq, Int.reduceLT, Int.reduceLE]
    exact hM (i' + 1) _ _ ⟨by omega, by omega, (by simp only [q0, FB, Nat.reduceEqDiff]), (by simp only [q1, FB, Nat.reduceEqDiff]), (by simp only [q4, FB, Nat.reduceEqDiff]), (by simp only [FB, Nat.reduceEqDiff]), (by simp only [q13, FB, Nat.reduceEqDiff]), rfl, by rw [hs, scanUp_step cc1 (by simp [ltC, cc2])]⟩ (by omega)
  have hs2 : scanUp (fun x => ltC c x d1[a]!) d1 (b - 1) (a + 1) = i' := by
    rw [hs, scanUp_stop]
    intro q
    have q2 : ¬ c d1[i']! d1[a]! < 0 := fun q2 => c1 ⟨q, q2⟩
    simp [ltC, q2]
  clear hM
  have hx : (i' ≤ (b - 1) ∧ ¬ c d1[i']! d1[a]! < 0) ∨ ¬ i' ≤ (b - 1) := by
    by_cases q : i' ≤ (b - 1)
    · exact .inl ⟨q, fun q2 => c1 ⟨q, q2⟩⟩
    · exact .inr q
  have i0 : i' ≤ (b - 1) → i' < n := fun q => by omega
  have hxx := hx
  rcases hx with ⟨cc2, cc3⟩ | cc2
  case' inl => simp only [n132, r132, q0, q1, q4, q12, q13, cc2, cc3, ld, st, ix, List.append_nil, Array.size_setIfInBounds, encL_len, hd0, i1, i0 cc2, hc, SB, Nat.reduceLT, callee, aOp, ne_eq, Nat.reduceEqDiff, aBin, aUn, if_true, if_false, reduceCtorEq, frame0, place, notTuple, Nat.reduceAdd, Nat.reduceLeDiff, resVal, dite_true, dite_false, Int.reduceEq, Int.reduceLT, Int.reduceLE]
  case' inr => simp only [n132, r132, q0, q1, q4, q12, q13, cc2, ld, st, ix, List.append_nil, Array.size_setIfInBounds, encL_len, SB, Nat.reduceLT, callee, aOp, ne_eq, Nat.reduceEqDiff, aBin, aUn, if_true, if_false, reduceCtorEq, frame0, place, notTuple, Nat.reduceAdd, Nat.reduceLeDiff, resVal, dite_true, dite_false, Int.reduceEq, Int.reduceLT, Int.reduceLE]
  all_goals
    clear cc2
    refine Ret_rounds (S := Nat) (fun s => s) (fun s fr H => s ≤ (b - 1) ∧ i' ≤ s + 1 ∧ fr 0 = .slice p n cap ∧ fr 1 = .int .i64 (a : Int) ∧ fr 4 = .func (.func cl) #[] cs.toArray ∧ fr 12 = .int .i64 (i' : Int) ∧ fr 13 = .int .i64 (s : Int) ∧
      H = DH encL G B d1 ++ X ∧ scanDown (fun x => !ltC c x d1[a]!) d1 i' (b - 1) = scanDown (fun x => !ltC c x d1[a]!) d1 i' s) (b - 1) ⟨Nat.le_refl _, by omega, (by simp only [q0, FB, Nat.reduceEqDiff]), (by simp only [q1, FB, Nat.reduceEqDiff]), (by simp only [q4, FB, Nat.reduceEqDiff]), (by simp only [q12, FB, Nat.reduceEqDiff]), (by simp only [q13, FB, Nat.reduceEqDiff]), rfl, rfl⟩ ?_
    rintro j' fr2 H2 ⟨y1, y2, p0, p1, p4, p12, p13, rfl, hs'⟩ hM
    rw [Ret_code l132_4.eq_1]
    have i4 : j' < n := by omega
    by_cases c4 : i' ≤ j' ∧ ¬ c d1[j']! d1[a]! < 0
    · obtain ⟨cc4, cc5⟩ := c4
      have hw3 : IntKind.i64.wrap ((j' : Int) - 1) = ((j' - 1 : Nat) : Int) := wrap_pred (by omega) (by omega)
      simp only [n132, r132, p0, p1, p4, p12, p13, cc4, cc5, hw3, ld, st, ix, List.append_nil, Array.size_setIfInBounds, encL_len, hd0, i1, i4, hc, SB, Nat.reduceLT, callee, aOp, ne_eq, Nat.reduceEqDiff, aBin, aUn, if_true, if_false, reduceCtorEq, frame0, place, notTuple, Nat.reduceAdd, Nat.reduceLeDiff, resVal, dite_true, dite_false, Int.reduceEq, Int.reduceLT, Int.reduceLE]
      exact hM (j' - 1) _ _ ⟨by omega, by omega, (by simp only [p0, FB, Nat.reduceEqDiff]), (by simp only [p1, FB, Nat.reduceEqDiff]), (by simp only [p4, FB, Nat.reduceEqDiff]), (by simp only [p12, FB, Nat.reduceEqDiff]), (by simp only [FB, Nat.reduceEqDiff]), rfl, by rw [hs', scanDown_step cc4 (by omega) (by simp [ltC, cc5])]⟩ (by omega)
    have hs3 : scanDown (fun x => !ltC c x d1[a]!) d1 i' (b - 1) = j' := by
      rw [hs', scanDown_stop]
      intro q
      have q2 : c d1[j']! d1[a]! < 0 := Classical.byContradiction fun q2 => c4 ⟨q, q2⟩
      simp [ltC, q2]
    clear hM
    by_cases c6 : j' < i'
    · have c7 : ¬ i' ≤ j' := by omega
      have i6 : j' < n := by omega
      simp only [hs2, hs3] at hT
      rw [if_pos (show i' > j' from c6)] at hT
      simp only [n132, r132, p0, p1, p4, p12, p13, c7, c6, ld, st, ix, List.append_nil, Array.size_setIfInBounds, encL_len, hd0, i1, i6, SB, Nat.reduceLT, callee, aOp, ne_eq, Nat.reduceEqDiff, aBin, aUn, if_true, if_false, reduceCtorEq, frame0, place, notTuple, Nat.reduceAdd, Nat.reduceLeDiff, resVal, dite_true, dite_false, Int.reduceEq, Int.reduceLT, Int.reduceLE]
      rw [← hT]
      exact ⟨rfl, rfl⟩
    · have c7 : i' ≤ j' := by omega
      have c8 : c d1[j']! d1[a]! < 0 := Classical.byContradiction fun q => c4 ⟨c7, q⟩
      have c9 : i' ≠ j' := by
        rintro rfl
        rcases hxx with q | q
        · exact q.2 c8
        · exact q (by omega)
      simp only [hs2, hs3] at hT
      rw [if_neg (show ¬ i' > j' from c6)] at hT
      have i5 : i' < n := by omega
      have i6 : j' < n := by omega
      have hw3 : IntKind.i64.wrap ((j' : Int) - 1) = ((j' - 1 : Nat) : Int) := wrap_pred (by omega) (by omega)
      have hw4 : IntKind.i64.wrap ((i' : Int) + 1) = ((i' + 1 : Nat) : Int) := wrap_nat (by omega)
      simp only [n132, r132, p0, p1, p4, p12, p13, c7, c6, c8, hw3, hw4, ld, st, ix, List.append_nil, Array.size_setIfInBounds, encL_len, hd0, i1, i6, i5, hc, SB, Nat.reduceLT, callee, aOp, ne_eq, Nat.reduceEqDiff, aBin, aUn, if_true, if_false, reduceCtorEq, frame0, place, notTuple, Nat.reduceAdd, Nat.reduceLeDiff, resVal, dite_true, dite_false, Int.reduceEq, Int.reduceLT, Int.reduceLE]
      generalize hL : partLoop (ltC c) a (i' + 1) (j' - 1) (swp d1 i' j') = L at hT
      refine Ret_rounds (S := (Nat × Nat) × Array Go.Net.Leg) (fun s => s.1.2 + 1 - s.1.1) (fun s fr H => a < s.1.1 ∧ s.1.1 ≤ s.1.2 + 1 ∧ s.1.2 < b ∧ fr 0 = .slice p n cap ∧ fr 1 = .int .i64 (a : Int) ∧ fr 4 = .func (.func cl) #[] cs.toArray ∧ fr 12 = .int .i64 (s.1.1 : Int) ∧ fr 13 = .int .i64 (s.1.2 : Int) ∧
        H = DH encL G B s.2 ++ X ∧ s.2.size = n ∧ L = partLoop (ltC c) a s.1.1 s.1.2 s.2) ((i' + 1, j' - 1), swp d1 i' j') ⟨by simp only; omega, by simp only; omega, by simp only; omega, (by simp only [p0, FB, Nat.reduceEqDiff]), (by simp only [p1, FB, Nat.reduceEqDiff]), (by simp only [p4, FB, Nat.reduceEqDiff]), (by simp only [FB, Nat.reduceEqDiff]), (by simp only [FB, Nat.reduceEqDiff]), by simp [swp], by simp [swp, hd0], hL.symm⟩ ?_
      clear hs2 hs3 hs hs' c1 c4 hxx i0 hL
      rintro ⟨⟨i, j⟩, d2⟩ fr H ⟨h1, h2, h3, g0, g1, g4, g12, g13, rfl, hd2, he⟩ hN
      simp only at h1 h2 h3 g12 g13 hd2 he
      rw [Ret_code l132_3.eq_1]
      simp only [n132, r132, SB, Nat.reduceLT, callee, aOp, ne_eq, Nat.reduceEqDiff, aBin, aUn, if_true, if_false, reduceCtorEq, frame0, place, notTuple, Nat.reduceAdd, Nat.reduceLeDiff, resVal, dite_true, dite_false, Int.reduceEq, Int.reduceLT, Int.reduceLE]
      refine Ret_rounds (S := Nat) (fun s => b + 1 - s) (fun s fr H => i ≤ s ∧ s ≤ j + 1 ∧ fr 0 = .slice p n cap ∧ fr 1 = .int .i64 (a : Int) ∧ fr 4 = .func (.func cl) #[] cs.toArray ∧ fr 12 = .int .i64 (s : Int) ∧ fr 13 = .int .i64 (j : Int) ∧
        H = DH encL G B d2 ++ X ∧ scanUp (fun u => ltC c u d2[a]!) d2 j i = scanUp (fun u => ltC c u d2[a]!) d2 j s) i ⟨Nat.le_refl _, by omega, g0, g1, g4, g12, g13, rfl, rfl⟩ ?_
      rintro x fr1 H1 ⟨x1, k2, q0, q1, q4, q12, q13, rfl, us⟩ hM
      rw [Ret_code l132_2.eq_1]
      by_cases z1 : x ≤ j ∧ c d2[x]! d2[a]! < 0
      · obtain ⟨cc1, cc2⟩ := z1
        have hw2 : IntKind.i64.wrap ((x : Int) + 1) = ((x + 1 : Nat) : Int) := wrap_nat (by omega)
        have i3 : x < n := by omega
        simp only [n132, r132, q0, q1, q4, q12, q13, cc1, cc2, hw2, ld, st, ix, List.append_nil, Array.size_setIfInBounds, encL_len, hd2, i1, i3, hc, SB, Nat.reduceLT, callee, aOp, ne_eq, Nat.reduceEqDiff, aBin, aUn, if_true, if_false, reduceCtorEq, frame0, place, notTuple, Nat.reduceAdd, Nat.reduceLeDiff, resVal, dite_true, dite_false, Int.reduceEq, Int.reduceLT, Int.reduceLE]
        exact hM (x + 1) _ _ ⟨by omega, by omega, (by simp only [q0, FB, Nat.reduceEqDiff]), (by simp only [q1, FB, Nat.reduceEqDiff]), (by simp only [q4, FB, Nat.reduceEqDiff]), (by simp only [FB, Nat.reduceEqDiff]), (by simp only [q13, FB, Nat.reduceEqDiff]), rfl, by rw [us, scanUp_step cc1 (by simp [ltC, cc2])]⟩ (by omega)
      have us2 : scanUp (fun u => ltC c u d2[a]!) d2 j i = x := by
        rw [us, scanUp_stop]
        intro q
        have q2 : ¬ c d2[x]! d2[a]! < 0 := fun q2 => z1 ⟨q, q2⟩
        simp [ltC, q2]
      clear hM
      have hz : (x ≤ j ∧ ¬ c d2[x]! d2[a]! < 0) ∨ ¬ x ≤ j := by
        by_cases q : x ≤ j
        · exact .inl ⟨q, fun q2 => z1 ⟨q, q2⟩⟩
        · exact .inr q
      have i0 : x ≤ j → x < n := fun q => by omega
      have hzz := hz
      rcases hz with ⟨cc2, cc3⟩ | cc2
      case' inl => simp only [n132, r132, q0, q1, q4, q12, q13, cc2, cc3, ld, st, ix, List.append_nil, Array.size_setIfInBounds, encL_len, hd2, i1, i0 cc2, hc, SB, Nat.reduceLT, callee, aOp, ne_eq, Nat.reduceEqDiff, aBin, aUn, if_true, if_false, reduceCtorEq, frame0, place, notTuple, Nat.reduceAdd, Nat.reduceLeDiff, resVal, dite_true, dite_false, Int.reduceEq, Int.reduceLT, Int.reduceLE]
      case' inr => simp only [n132, r132, q0, q1, q4, q12, q13, cc2, ld, st, ix, List.append_nil, Array.size_setIfInBounds, encL_len, SB, Nat.reduceLT, callee, aOp, ne_eq, Nat.reduceEqDiff, aBin, aUn, if_true, if_false, reduceCtorEq, frame0, place, notTuple, Nat.reduceAdd, Nat.reduceLeDiff, resVal, dite_true, dite_false, Int.reduceEq, Int.reduceLT, Int.reduceLE]
      all_goals
        clear cc2
        refine Ret_rounds (S := Nat) (fun s => s) (fun s fr H => s ≤ j ∧ x ≤ s + 1 ∧ fr 0 = .slice p n cap ∧ fr 1 = .int .i64 (a : Int) ∧ fr 4 = .func (.func cl) #[] cs.toArray ∧ fr 12 = .int .i64 (x : Int) ∧ fr 13 = .int .i64 (s : Int) ∧
          H = DH encL G B d2 ++ X ∧ scanDown (fun u => !ltC c u d2[a]!) d2 x j = scanDown (fun u => !ltC c u d2[a]!) d2 x s) j ⟨Nat.le_refl _, by omega, (by simp only [q0, FB, Nat.reduceEqDiff]), (by simp only [q1, FB, Nat.reduceEqDiff]), (by simp only [q4, FB, Nat.reduceEqDiff]), (by simp only [q12, FB, Nat.reduceEqDiff]), (by simp only [q13, FB, Nat.reduceEqDiff]), rfl, rfl⟩ ?_
        rintro y fr2 H2 ⟨y1, y2, t0, t1, t4, t12, t13, rfl, us'⟩ hM
        rw [Ret_code l132_1.eq_1]
        have i4 : y < n := by omega
        by_cases z4 : x ≤ y ∧ ¬ c d2[y]! d2[a]! < 0
        · obtain ⟨cc4, cc5⟩ := z4
          have hw3 : IntKind.i64.wrap ((y : Int) - 1) = ((y - 1 : Nat) : Int) := wrap_pred (by omega) (by omega)
          simp only [n132, r132, t0, t1, t4, t12, t13, cc4, cc5, hw3, ld, st, ix, List.append_nil, Array.size_setIfInBounds, encL_len, hd2, i1, i4, hc, SB, Nat.reduceLT, callee, aOp, ne_eq, Nat.reduceEqDiff, aBin, aUn, if_true, if_false, reduceCtorEq, frame0, place, notTuple, Nat.reduceAdd, Nat.reduceLeDiff, resVal, dite_true, dite_false, Int.reduceEq, Int.reduceLT, Int.reduceLE]
          exact hM (y - 1) _ _ ⟨by omega, by omega, (by simp only [t0, FB, Nat.reduceEqDiff]), (by simp only [t1, FB, Nat.reduceEqDiff]), (by simp only [t4, FB, Nat.reduceEqDiff]), (by simp only [t12, FB, Nat.reduceEqDiff]), (by simp only [FB, Nat.reduceEqDiff]), rfl, by rw [us', scanDown_step cc4 (by omega) (by simp [ltC, cc5])]⟩ (by omega)
        have us3 : scanDown (fun u => !ltC c u d2[a]!) d2 x j = y := by
          rw [us', scanDown_stop]
          intro q
          have q2 : c d2[y]! d2[a]! < 0 := Classical.byContradiction fun q2 => z4 ⟨q, q2⟩
          simp [ltC, q2]
        clear hM
        by_cases z6 : y < x
        · have z7 : ¬ x ≤ y := by omega
          have i6 : y < n := by omega
          rw [part_stop us2 us3 z6] at he
          simp only [n132, r132, t0, t1, t4, t12, t13, z7, z6, ld, st, ix, List.append_nil, Array.size_setIfInBounds, encL_len, hd2, i1, i6, SB, Nat.reduceLT, callee, aOp, ne_eq, Nat.reduceEqDiff, aBin, aUn, if_true, if_false, reduceCtorEq, frame0, place, notTuple, Nat.reduceAdd, Nat.reduceLeDiff, resVal, dite_true, dite_false, Int.reduceEq, Int.reduceLT, Int.reduceLE]
          rw [← hT, he]
          exact ⟨rfl, rfl⟩
        · have z7 : x ≤ y := by omega
          have z8 : c d2[y]! d2[a]! < 0 := Classical.byContradiction fun q => z4 ⟨z7, q⟩
          have z9 : x ≠ y := by
            rintro rfl
            rcases hzz with q | q
            · exact q.2 z8
            · exact q (by omega)
          rw [part_next us2 us3 z6 x1 y1 (by omega)] at he
          have i5 : x < n := by omega
          have i6 : y < n := by omega
          have hw5 : IntKind.i64.wrap ((y : Int) - 1) = ((y - 1 : Nat) : Int) := wrap_pred (by omega) (by omega)
          have hw6 : IntKind.i64.wrap ((x : Int) + 1) = ((x + 1 : Nat) : Int) := wrap_nat (by omega)
          simp only [n132, r132, t0, t1, t4, t12, t13, z7, z6, z8, hw5, hw6, ld, st, ix, List.append_nil, Array.size_setIfInBounds, encL_len, hd2, i1, i6, i5, hc, SB, Nat.reduceLT, callee, aOp, ne_eq, Nat.reduceEqDiff, aBin, aUn, if_true, if_false, reduceCtorEq, frame0, place, notTuple, Nat.reduceAdd, Nat.reduceLeDiff, resVal, dite_true, dite_false, Int.reduceEq, Int.reduceLT, Int.reduceLE]
          exact hN ((x + 1, y - 1), swp d2 x y) _ _ ⟨by simp only; omega, by simp only; omega, by simp only; omega, (by simp only [t0, FB, Nat.reduceEqDiff]), (by simp only [t1, FB, Nat.reduceEqDiff]), (by simp only [t4, FB, Nat.reduceEqDiff]), (by simp only [FB, Nat.reduceEqDiff]), (by simp only [FB, Nat.reduceEqDiff]), by simp [swp], by simp [swp, hd2], he⟩ (by simp only; omega)
theorem scanS_step {α : Type} [Inhabited α] {lt : α → α → Bool} {d : Array α} {b i : Nat} (h : i < b) (hp : lt d[i]! d[i - 1]! = false) : scanSorted lt d b i = scanSorted lt d b (i + 1) := by
  rw [scanSorted]; simp [h, hp]
theorem scanS_stop {α : Type} [Inhabited α] {lt : α → α → Bool} {d : Array α} {b i : Nat} (h : i < b → lt d[i]! d[i - 1]! = true) : scanSorted lt d b i = i := by
  rw [scanSorted]
  by_cases q : i < b
  · simp [h q]
  · simp [q]
def fixDownC {α : Type} [Inhabited α] (lt : α → α → Bool) (a i : Nat) (d : Array α) : Array α := if 2 ≤ i - a then shiftDown lt (i - 1) d else d
def fixUpC {α : Type} [Inhabited α] (lt : α → α → Bool) (b i : Nat) (d : Array α) : Array α := if 2 ≤ b - i then shiftUp lt b (i + 1) d else d
theorem partialIns_more {α : Type} [Inhabited α] {lt : α → α → Bool} {a b k i i' : Nat} {d : Array α} (hs : scanSorted lt d b i = i') (h1 : ¬ i' = b) (h2 : ¬ b - a < 50) : partialIns lt a b (k + 1) i d = partialIns lt a b k i' (fixUpC lt b i' (fixDownC lt a i' (swp d i' (i' - 1)))) := by
  rw [partialIns]
  simp only [hs]
  rw [if_neg h1, if_neg h2]
  rfl
theorem pis_ok [OB] {G X : Heap} {B lim cap n : Nat} {p : Option Addr} {c : Go.Net.Leg → Go.Net.Leg → Int} {cl : FuncId} {cs : List Value} {Q : Value → Heap → Prop} (hp : p = some ⟨B, 0, none⟩) (hB : B < G.length) (hl : lim ≤ B) (hn2 : n < 2 ^ 61) (hc : ∀ (mp : Bool) (lim : Nat) (x y : Go.Net.Leg) (H : Heap) (Q : Value → Heap → Prop), CallR E mp lim cl (.agg (encL x).toArray :: .agg (encL y).toArray :: cs) H Q = Q (.int .i64 (c x y)) H) {d : Array Go.Net.Leg} {a b : Nat} (hd : d.size = n) (hb : b ≤ n) (hab : a < b) :
    CallR E false lim 130 [.slice p n cap, .int .i64 (a : Int), .int .i64 (b : Int), .func (.func cl) #[] cs.toArray] (DH encL G B d ++ X) Q = Q (.bool (partialInsertionSort (ltC c) d a b).2) (DH encL G B (partialInsertionSort (ltC c) d a b).1 ++ X) := by
  refine runs (by decide) e130 rfl ?_
  rw [b130, c130]
  have hw1 : IntKind.i64.wrap ((a : Int) + 1) = ((a + 1 : Nat) : Int) := wrap_nat (by omega)
  generalize hT : partialInsertionSort (ltC c) d a b = T
  rw [partialInsertionSort] at hT
  have ld := fun (i : Nat) (X : Heap) (d : Array Go.Net.Leg) (hd : d.size = n) (hi : i < n) => DH_ld (X := X) (d := d) (i := i) hp hB encL_len (by omega); have st := fun (i : Nat) (X : Heap) (d : Array Go.Net.Leg) (hd : d.size = n) (hi : i < n) (y : Go.Net.Leg) => DH_st (X := X) (d := d) (i := i) (y := y) hp hB hl encL_len (by omega); have ix := fun (i : Nat) (hi : i < n) c (k : IntKind) (H : Heap) => DH_idx (e := 8) (i := i) (n := n) (c := c) (k := k) (H := H) hp hi
  simp only [n130, r130, hw1, SB, Nat.reduceLT, callee, aOp, ne_eq, Nat.reduceEqDiff, aBin, aUn, if_true, if_false, reduceCtorEq, frame0, place, notTuple, Nat.reduceAdd, Nat.reduceLeDiff, resVal, dite_true, dite_false, Int.reduceEq, Int.reduceLT, Int.reduceLE]
  refine Ret_rounds (S := Nat × Nat × Array Go.Net.Leg) (fun s => s.1) (fun s fr H => s.1 ≤ 5 ∧ a < s.2.1 ∧ s.2.1 ≤ b ∧ fr 0 = .slice p n cap ∧ fr 1 = .int .i64 (a : Int) ∧ fr 2 = .int .i64 (b : Int) ∧ fr 3 = .func (.func cl) #[] cs.toArray ∧ fr 9 = .int .i64 (s.2.1 : Int) ∧ fr 10 = .int .i64 (5 - (s.1 : Int)) ∧
    H = DH encL G B s.2.2 ++ X ∧ s.2.2.size = n ∧ T = partialIns (ltC c) a b s.1 s.2.1 s.2.2) (5, a + 1, d) ⟨by simp only; omega, by simp only; omega, by simp only; omega, (by simp only [FB, Nat.reduceEqDiff]), (by simp only [FB, Nat.reduceEqDiff]), (by simp only [FB, Nat.reduceEqDiff]), (by simp only [FB, Nat.reduceEqDiff]), (by simp only [FB, Nat.reduceEqDiff]), by rfl, rfl, hd, hT.symm⟩ ?_
  rintro ⟨k, i, d1⟩ fr H ⟨h1, h2, h3, g0, g1, g2, g3, g9, g10, rfl, hd1, he⟩ hN
  simp only at h1 h2 h3 g9 g10 hd1 he
  rw [Ret_code l130_4.eq_1]
  cases k with
  | zero =>
    have g10' : fr 10 = .int .i64 5 := by simpa using g10
    clear hN g10
    simp only [n130, r130, g0, g1, g2, g3, g9, g10', SB, Nat.reduceLT, callee, aOp, ne_eq, Nat.reduceEqDiff, aBin, aUn, if_true, if_false, reduceCtorEq, frame0, place, notTuple, Nat.reduceAdd, Nat.reduceLeDiff, resVal, dite_true, dite_false, Int.reduceEq, Int.reduceLT, Int.reduceLE]
    rw [he, partialIns]
    exact ⟨rfl, rfl⟩
  | succ k =>
    have hk : (5 : Int) - ((k + 1 : Nat) : Int) < 5 := by omega
    have hwk : IntKind.i64.wrap ((5 : Int) - ((k + 1 : Nat) : Int) + 1) = 5 - (k : Int) := by rw [wrap_id (by omega) (by omega)]; omega
    simp only [n130, r130, g0, g1, g2, g3, g9, g10, hk, SB, Nat.reduceLT, callee, aOp, ne_eq, Nat.reduceEqDiff, aBin, aUn, if_true, if_false, reduceCtorEq, frame0, place, notTuple, Nat.reduceAdd, Nat.reduceLeDiff, resVal, dite_true, dite_false, Int.reduceEq, Int.reduceLT, Int.reduceLE]
    refine Ret_rounds (S := Nat) (fun s => b + 1 - s) (fun s fr H => i ≤ s ∧ s ≤ b ∧ fr 0 = .slice p n cap ∧ fr 1 = .int .i64 (a : Int) ∧ fr 2 = .int .i64 (b : Int) ∧ fr 3 = .func (.func cl) #[] cs.toArray ∧ fr 9 = .int .i64 (s : Int) ∧ fr 10 = .int .i64 (5 - ((k + 1 : Nat) : Int)) ∧
      H = DH encL G B d1 ++ X ∧ scanSorted (ltC c) d1 b i = scanSorted (ltC c) d1 b s) i ⟨Nat.le_refl _, h3, (by simp only [g0, FB, Nat.reduceEqDiff]), (by simp only [g1, FB, Nat.reduceEqDiff]), (by simp only [g2, FB, Nat.reduceEqDiff]), (by simp only [g3, FB, Nat.reduceEqDiff]), (by simp only [g9, FB, Nat.reduceEqDiff]), (by simp only [g10, FB, Nat.reduceEqDiff]), rfl, rfl⟩ ?_
    rintro i' fr1 H1 ⟨x1, x2, q0, q1, q2, q3, q9, q10, rfl, hs⟩ hM
    rw [Ret_code l130_3.eq_1]
    have hwi : IntKind.i64.wrap ((i' : Int) - 1) = ((i' - 1 : Nat) : Int) := wrap_pred (by omega) (by omega)
    have hwi1 : IntKind.i64.wrap ((i' : Int) + 1) = ((i' + 1 : Nat) : Int) := wrap_nat (by omega)
    have hwa : IntKind.i64.wrap ((i' : Int) - (a : Int)) = ((i' - a : Nat) : Int) := by rw [wrap_id (by omega) (by omega)]; omega
    have hwb : IntKind.i64.wrap ((b : Int) - (i' : Int)) = ((b - i' : Nat) : Int) := by rw [wrap_id (by omega) (by omega)]; omega
    have hwl : IntKind.i64.wrap ((b : Int) - (a : Int)) = ((b - a : Nat) : Int) := by rw [wrap_id (by omega) (by omega)]; omega
    have i6 : i' - 1 < n := by omega
    by_cases c1 : i' = b
    · subst c1
      have hs2 : scanSorted (ltC c) d1 i' i = i' := by rw [hs, scanS_stop (fun q => absurd q (Nat.lt_irrefl _))]
      have c2 : ¬ i' < i' := Nat.lt_irrefl _
      have e : partialIns (ltC c) a i' (k + 1) i d1 = (d1, true) := by
        rw [partialIns]; simp only [hs2]; simp
      simp only [n130, r130, q0, q1, q2, q3, q9, q10, c2, ld, st, ix, List.append_nil, Array.size_setIfInBounds, encL_len, SB, Nat.reduceLT, callee, aOp, ne_eq, Nat.reduceEqDiff, aBin, aUn, if_true, if_false, reduceCtorEq, frame0, place, notTuple, Nat.reduceAdd, Nat.reduceLeDiff, resVal, dite_true, dite_false, Int.reduceEq, Int.reduceLT, Int.reduceLE]
      rw [he, e]
      exact ⟨rfl, rfl⟩
    have c2 : i' < b := by omega
    have i5 : i' < n := by omega
    have c1' : ¬ ((i' : Int) = (b : Int)) := by omega
    by_cases c3 : c d1[i']! d1[i' - 1]! < 0
    case neg =>
      simp only [n130, r130, q0, q1, q2, q3, q9, q10, c2, c3, hwi, hwi1, ld, st, ix, List.append_nil, Array.size_setIfInBounds, encL_len, hd1, i5, i6, hc, SB, Nat.reduceLT, callee, aOp, ne_eq, Nat.reduceEqDiff, aBin, aUn, if_true, if_false, reduceCtorEq, frame0, place, notTuple, Nat.reduceAdd, Nat.reduceLeDiff, resVal, dite_true, dite_false, Int.reduceEq, Int.reduceLT, Int.reduceLE]
      exact hM (i' + 1) _ _ ⟨by omega, by omega, (by simp only [q0, FB, Nat.reduceEqDiff]), (by simp only [q1, FB, Nat.reduceEqDiff]), (by simp only [q2, FB, Nat.reduceEqDiff]), (by simp only [q3, FB, Nat.reduceEqDiff]), (by simp only [FB, Nat.reduceEqDiff]), (by simp only [q10, FB, Nat.reduceEqDiff]), rfl, by rw [hs, scanS_step c2 (by simp [ltC, c3])]⟩ (by omega)
    clear hM
    have hs2 : scanSorted (ltC c) d1 b i = i' := by rw [hs, scanS_stop (fun _ => by simp [ltC, c3])]
    by_cases c4 : b - a < 50
    · have c4' : ((b - a : Nat) : Int) < 50 := by omega
      simp only [n130, r130, q0, q1, q2, q3, q9, q10, c2, c3, c1', c4', hwi, hwl, ld, st, ix, List.append_nil, Array.size_setIfInBounds, encL_len, hd1, i5, i6, hc, SB, Nat.reduceLT, callee, aOp, ne_eq, Nat.reduceEqDiff, aBin, aUn, if_true, if_false, reduceCtorEq, frame0, place, notTuple, Nat.reduceAdd, Nat.reduceLeDiff, resVal, dite_true, dite_false, Int.reduceEq, Int.reduceLT, Int.reduceLE]
      have e : partialIns (ltC c) a b (k + 1) i d1 = (d1, false) := by
        rw [partialIns]; simp only [hs2]; rw [if_neg c1, if_pos c4]
      rw [he, e]
      exact ⟨rfl, rfl⟩
    have c4' : ¬ ((b - a : Nat) : Int) < 50 := by omega
    rw [partialIns_more hs2 c1 c4] at he
    by_cases hA : 2 ≤ i' - a
    · have hAi : (2 : Int) ≤ ((i' - a : Nat) : Int) := by omega
      simp only [n130, r130, q0, q1, q2, q3, q9, q10, c2, c3, c1', c4', hwi, hwl, hwa, hAi, ld, st, ix, List.append_nil, Array.size_setIfInBounds, encL_len, hd1, i5, i6, hc, SB, Nat.reduceLT, callee, aOp, ne_eq, Nat.reduceEqDiff, aBin, aUn, if_true, if_false, reduceCtorEq, frame0, place, notTuple, Nat.reduceAdd, Nat.reduceLeDiff, resVal, dite_true, dite_false, Int.reduceEq, Int.reduceLT, Int.reduceLE]
      refine Ret_rounds (S := Nat × Array Go.Net.Leg) (fun s => s.1) (fun s fr H => s.1 < i' ∧ fr 0 = .slice p n cap ∧ fr 1 = .int .i64 (a : Int) ∧ fr 2 = .int .i64 (b : Int) ∧ fr 3 = .func (.func cl) #[] cs.toArray ∧ fr 9 = .int .i64 (i' : Int) ∧ fr 10 = .int .i64 (5 - ((k + 1 : Nat) : Int)) ∧ fr 11 = .int .i64 (s.1 : Int) ∧
        H = DH encL G B s.2 ++ X ∧ s.2.size = n ∧ shiftDown (ltC c) (i' - 1) (swp d1 i' (i' - 1)) = shiftDown (ltC c) s.1 s.2) (i' - 1, swp d1 i' (i' - 1)) ⟨by simp only; omega, (by simp only [q0, FB, Nat.reduceEqDiff]), (by simp only [q1, FB, Nat.reduceEqDiff]), (by simp only [q2, FB, Nat.reduceEqDiff]), (by simp only [q3, FB, Nat.reduceEqDiff]), (by simp only [q9, FB, Nat.reduceEqDiff]), (by simp only [q10, FB, Nat.reduceEqDiff]), (by simp only [FB, Nat.reduceEqDiff]), by simp [swp], by simp [swp, hd1], rfl⟩ ?_
      rintro ⟨v, dv⟩ frv Hv ⟨v1, v30, v31, v32, v33, v39, v310, v11, rfl, hdv, hev⟩ hV
      simp only at v1 v11 hdv hev
      rw [Ret_code l130_2.eq_1]
      cases v with
      | succ v =>
        have iv : v + 1 < n := by omega
        have iv1 : v < n := by omega
        have hwv : IntKind.i64.wrap (((v + 1 : Nat) : Int) - 1) = (v : Int) := wrap_pred (n := v + 1) (by omega) (by omega)
        have cv : (1 : Int) ≤ ((v + 1 : Nat) : Int) := by omega
        rw [shiftDown] at hev
        by_cases cv2 : c dv[v + 1]! dv[v]! < 0
        · rw [if_neg (by simp [ltC, cv2])] at hev
          simp only [n130, r130, v30, v31, v32, v33, v39, v310, v11, cv, cv2, hwv, ld, st, ix, List.append_nil, Array.size_setIfInBounds, encL_len, hdv, iv, iv1, hc, SB, Nat.reduceLT, callee, aOp, ne_eq, Nat.reduceEqDiff, aBin, aUn, if_true, if_false, reduceCtorEq, frame0, place, notTuple, Nat.reduceAdd, Nat.reduceLeDiff, resVal, dite_true, dite_false, Int.reduceEq, Int.reduceLT, Int.reduceLE]
          exact hV (v, swp dv (v + 1) v) _ _ ⟨by simp only; omega, (by simp only [v30, FB, Nat.reduceEqDiff]), (by simp only [v31, FB, Nat.reduceEqDiff]), (by simp only [v32, FB, Nat.reduceEqDiff]), (by simp only [v33, FB, Nat.reduceEqDiff]), (by simp only [v39, FB, Nat.reduceEqDiff]), (by simp only [v310, FB, Nat.reduceEqDiff]), (by simp only [FB, Nat.reduceEqDiff]), by simp [swp], by simp [swp, hdv], hev⟩ (by simp only; omega)
        · rw [if_pos (by simp [ltC, cv2])] at hev
          clear hV
          have hfd : fixDownC (ltC c) a i' (swp d1 i' (i' - 1)) = dv := by rw [fixDownC, if_pos hA, hev]
          by_cases hB : 2 ≤ b - i'
          · have hBi : (2 : Int) ≤ ((b - i' : Nat) : Int) := by omega
            simp only [n130, r130, v30, v31, v32, v33, v39, v310, hwb, hBi, hwi1, v11, cv, cv2, hwv, hdv, iv, iv1, hc, ld, st, ix, List.append_nil, Array.size_setIfInBounds, encL_len, SB, Nat.reduceLT, callee, aOp, ne_eq, Nat.reduceEqDiff, aBin, aUn, if_true, if_false, reduceCtorEq, frame0, place, notTuple, Nat.reduceAdd, Nat.reduceLeDiff, resVal, dite_true, dite_false, Int.reduceEq, Int.reduceLT, Int.reduceLE]
            generalize hU : shiftUp (ltC c) b (i' + 1) (dv) = U
            refine Ret_rounds (S := Nat × Array Go.Net.Leg) (fun s => b + 1 - s.1) (fun s fr H => i' + 1 ≤ s.1 ∧ s.1 ≤ b ∧ fr 0 = .slice p n cap ∧ fr 1 = .int .i64 (a : Int) ∧ fr 2 = .int .i64 (b : Int) ∧ fr 3 = .func (.func cl) #[] cs.toArray ∧ fr 9 = .int .i64 (i' : Int) ∧ fr 10 = .int .i64 (5 - ((k + 1 : Nat) : Int)) ∧ fr 12 = .int .i64 (s.1 : Int) ∧
              H = DH encL G B s.2 ++ X ∧ s.2.size = n ∧ U = shiftUp (ltC c) b s.1 s.2) (i' + 1, dv) ⟨by simp only; omega, by simp only; omega, (by simp only [v30, FB, Nat.reduceEqDiff]), (by simp only [v31, FB, Nat.reduceEqDiff]), (by simp only [v32, FB, Nat.reduceEqDiff]), (by simp only [v33, FB, Nat.reduceEqDiff]), (by simp only [v39, FB, Nat.reduceEqDiff]), (by simp only [v310, FB, Nat.reduceEqDiff]), (by simp only [FB, Nat.reduceEqDiff]), by simp [swp], by simp [swp, hdv], hU.symm⟩ ?_
            rintro ⟨w, dw⟩ frw Hw ⟨w1, w2, w3, w4, w5, w6, w9, w10, w12, rfl, hdw, hew⟩ hW
            simp only at w1 w2 w12 hdw hew
            rw [Ret_code l130_1.eq_1]
            unfold shiftUp at hew
            by_cases cw : w < b
            · have iw : w < n := by omega
              have iw1 : w - 1 < n := by omega
              have hww : IntKind.i64.wrap ((w : Int) - 1) = ((w - 1 : Nat) : Int) := wrap_pred (by omega) (by omega)
              have hww1 : IntKind.i64.wrap ((w : Int) + 1) = ((w + 1 : Nat) : Int) := wrap_nat (by omega)
              by_cases cw2 : c dw[w]! dw[w - 1]! < 0
              · rw [if_pos cw, if_neg (by simp [ltC, cw2])] at hew
                simp only [n130, r130, w3, w4, w5, w6, w9, w10, w12, cw, cw2, hww, hww1, ld, st, ix, List.append_nil, Array.size_setIfInBounds, encL_len, hdw, iw, iw1, hc, SB, Nat.reduceLT, callee, aOp, ne_eq, Nat.reduceEqDiff, aBin, aUn, if_true, if_false, reduceCtorEq, frame0, place, notTuple, Nat.reduceAdd, Nat.reduceLeDiff, resVal, dite_true, dite_false, Int.reduceEq, Int.reduceLT, Int.reduceLE]
                exact hW (w + 1, swp dw w (w - 1)) _ _ ⟨by simp only; omega, by simp only; omega, (by simp only [w3, FB, Nat.reduceEqDiff]), (by simp only [w4, FB, Nat.reduceEqDiff]), (by simp only [w5, FB, Nat.reduceEqDiff]), (by simp only [w6, FB, Nat.reduceEqDiff]), (by simp only [w9, FB, Nat.reduceEqDiff]), (by simp only [w10, FB, Nat.reduceEqDiff]), (by simp only [FB, Nat.reduceEqDiff]), by simp [swp], by simp [swp, hdw], hew⟩ (by simp only; omega)
              · rw [if_pos cw, if_pos (by simp [ltC, cw2])] at hew
                clear hW
                simp only [n130, r130, w3, w4, w5, w6, w9, w10, w12, cw, cw2, hww, hww1, ld, st, ix, List.append_nil, Array.size_setIfInBounds, encL_len, hdw, iw, iw1, hc, hwk, SB, Nat.reduceLT, callee, aOp, ne_eq, Nat.reduceEqDiff, aBin, aUn, if_true, if_false, reduceCtorEq, frame0, place, notTuple, Nat.reduceAdd, Nat.reduceLeDiff, resVal, dite_true, dite_false, Int.reduceEq, Int.reduceLT, Int.reduceLE]
                exact hN (k, i', dw) _ _ ⟨by simp only; omega, by simp only; omega, by simp only; omega, (by simp only [w3, FB, Nat.reduceEqDiff]), (by simp only [w4, FB, Nat.reduceEqDiff]), (by simp only [w5, FB, Nat.reduceEqDiff]), (by simp only [w6, FB, Nat.reduceEqDiff]), (by simp only [w9, FB, Nat.reduceEqDiff]), (by simp only [FB, Nat.reduceEqDiff]), by simp, hdw, by rw [he, hfd, fixUpC, if_pos hB, hU, hew]⟩ (by simp only; omega)
            · rw [if_neg cw] at hew
              clear hW
              simp only [n130, r130, w3, w4, w5, w6, w9, w10, w12, cw, ld, st, ix, List.append_nil, Array.size_setIfInBounds, encL_len, hwk, SB, Nat.reduceLT, callee, aOp, ne_eq, Nat.reduceEqDiff, aBin, aUn, if_true, if_false, reduceCtorEq, frame0, place, notTuple, Nat.reduceAdd, Nat.reduceLeDiff, resVal, dite_true, dite_false, Int.reduceEq, Int.reduceLT, Int.reduceLE]
              exact hN (k, i', dw) _ _ ⟨by simp only; omega, by simp only; omega, by simp only; omega, (by simp only [w3, FB, Nat.reduceEqDiff]), (by simp only [w4, FB, Nat.reduceEqDiff]), (by simp only [w5, FB, Nat.reduceEqDiff]), (by simp only [w6, FB, Nat.reduceEqDiff]), (by simp only [w9, FB, Nat.reduceEqDiff]), (by simp only [FB, Nat.reduceEqDiff]), by simp, hdw, by rw [he, hfd, fixUpC, if_pos hB, hU, hew]⟩ (by simp only; omega)
          · have hBi : ¬ (2 : Int) ≤ ((b - i' : Nat) : Int) := by omega
            simp only [n130, r130, v30, v31, v32, v33, v39, v310, hwb, hBi, hwk, v11, cv, cv2, hwv, hdv, iv, iv1, hc, ld, st, ix, List.append_nil, Array.size_setIfInBounds, encL_len, SB, Nat.reduceLT, callee, aOp, ne_eq, Nat.reduceEqDiff, aBin, aUn, if_true, if_false, reduceCtorEq, frame0, place, notTuple, Nat.reduceAdd, Nat.reduceLeDiff, resVal, dite_true, dite_false, Int.reduceEq, Int.reduceLT, Int.reduceLE]
            exact hN (k, i', dv) _ _ ⟨by simp only; omega, by simp only; omega, by simp only; omega, (by simp only [v30, FB, Nat.reduceEqDiff]), (by simp only [v31, FB, Nat.reduceEqDiff]), (by simp only [v32, FB, Nat.reduceEqDiff]), (by simp only [v33, FB, Nat.reduceEqDiff]), (by simp only [v39, FB, Nat.reduceEqDiff]), (by simp only [FB, Nat.reduceEqDiff]), by simp [swp], by simp [swp, hdv], by rw [he, hfd, fixUpC, if_neg hB]⟩ (by simp only; omega)
      | zero =>
        have cv : ¬ (1 : Int) ≤ ((0 : Nat) : Int) := by omega
        rw [shiftDown] at hev
        clear hV
        have hfd : fixDownC (ltC c) a i' (swp d1 i' (i' - 1)) = dv := by rw [fixDownC, if_pos hA, hev]
        by_cases hB : 2 ≤ b - i'
        · have hBi : (2 : Int) ≤ ((b - i' : Nat) : Int) := by omega
          simp only [n130, r130, v30, v31, v32, v33, v39, v310, hwb, hBi, hwi1, v11, cv, ld, st, ix, List.append_nil, Array.size_setIfInBounds, encL_len, SB, Nat.reduceLT, callee, aOp, ne_eq, Nat.reduceEqDiff, aBin, aUn, if_true, if_false, reduceCtorEq, frame0, place, notTuple, Nat.reduceAdd, Nat.reduceLeDiff, resVal, dite_true, dite_false, Int.reduceEq, Int.reduceLT, Int.reduceLE]
          generalize hU : shiftUp (ltC c) b (i' + 1) (dv) = U
          refine Ret_rounds (S := Nat × Array Go.Net.Leg) (fun s => b + 1 - s.1) (fun s fr H => i' + 1 ≤ s.1 ∧ s.1 ≤ b ∧ fr 0 = .slice p n cap ∧ fr 1 = .int .i64 (a : Int) ∧ fr 2 = .int .i64 (b : Int) ∧ fr 3 = .func (.func cl) #[] cs.toArray ∧ fr 9 = .int .i64 (i' : Int) ∧ fr 10 = .int .i64 (5 - ((k + 1 : Nat) : Int)) ∧ fr 12 = .int .i64 (s.1 : Int) ∧
            H = DH encL G B s.2 ++ X ∧ s.2.size = n ∧ U = shiftUp (ltC c) b s.1 s.2) (i' + 1, dv) ⟨by simp only; omega, by simp only; omega, (by simp only [v30, FB, Nat.reduceEqDiff]), (by simp only [v31, FB, Nat.reduceEqDiff]), (by simp only [v32, FB, Nat.reduceEqDiff]), (by simp only [v33, FB, Nat.reduceEqDiff]), (by simp only [v39, FB, Nat.reduceEqDiff]), (by simp only [v310, FB, Nat.reduceEqDiff]), (by simp only [FB, Nat.reduceEqDiff]), by simp [swp], by simp [swp, hdv], hU.symm⟩ ?_
          rintro ⟨w, dw⟩ frw Hw ⟨w1, w2, w3, w4, w5, w6, w9, w10, w12, rfl, hdw, hew⟩ hW
          simp only at w1 w2 w12 hdw hew
          rw [Ret_code l130_1.eq_1]
          unfold shiftUp at hew
          by_cases cw : w < b
          · have iw : w < n := by omega
            have iw1 : w - 1 < n := by omega
            have hww : IntKind.i64.wrap ((w : Int) - 1) = ((w - 1 : Nat) : Int) := wrap_pred (by omega) (by omega)
            have hww1 : IntKind.i64.wrap ((w : Int) + 1) = ((w + 1 : Nat) : Int) := wrap_nat (by omega)
            by_cases cw2 : c dw[w]! dw[w - 1]! < 0
            · rw [if_pos cw, if_neg (by simp [ltC, cw2])] at hew
              simp only [n130, r130, w3, w4, w5, w6, w9, w10, w12, cw, cw2, hww, hww1, ld, st, ix, List.append_nil, Array.size_setIfInBounds, encL_len, hdw, iw, iw1, hc, SB, Nat.reduceLT, callee, aOp, ne_eq, Nat.reduceEqDiff, aBin, aUn, if_true, if_false, reduceCtorEq, frame0, place, notTuple, Nat.reduceAdd, Nat.reduceLeDiff, resVal, dite_true, dite_false, Int.reduceEq, Int.reduceLT, Int.reduceLE]
              exact hW (w + 1, swp dw w (w - 1)) _ _ ⟨by simp only; omega, by simp only; omega, (by simp only [w3, FB, Nat.reduceEqDiff]), (by simp only [w4, FB, Nat.reduceEqDiff]), (by simp only [w5, FB, Nat.reduceEqDiff]), (by simp only [w6, FB, Nat.reduceEqDiff]), (by simp only [w9, FB, Nat.reduceEqDiff]), (by simp only [w10, FB, Nat.reduceEqDiff]), (by simp only [FB, Nat.reduceEqDiff]), by simp [swp], by simp [swp, hdw], hew⟩ (by simp only; omega)
            · rw [if_pos cw, if_pos (by simp [ltC, cw2])] at hew
              clear hW
              simp only [n130, r130, w3, w4, w5, w6, w9, w10, w12, cw, cw2, hww, hww1, ld, st, ix, List.append_nil, Array.size_setIfInBounds, encL_len, hdw, iw, iw1, hc, hwk, SB, Nat.reduceLT, callee, aOp, ne_eq, Nat.reduceEqDiff, aBin, aUn, if_true, if_false, reduceCtorEq, frame0, place, notTuple, Nat.reduceAdd, Nat.reduceLeDiff, resVal, dite_true, dite_false, Int.reduceEq, Int.reduceLT, Int.reduceLE]
              exact hN (k, i', dw) _ _ ⟨by simp only; omega, by simp only; omega, by simp only; omega, (by simp only [w3, FB, Nat.reduceEqDiff]), (by simp only [w4, FB, Nat.reduceEqDiff]), (by simp only [w5, FB, Nat.reduceEqDiff]), (by simp only [w6, FB, Nat.reduceEqDiff]), (by simp only [w9, FB, Nat.reduceEqDiff]), (by simp only [FB, Nat.reduceEqDiff]), by simp, hdw, by rw [he, hfd, fixUpC, if_pos hB, hU, hew]⟩ (by simp only; omega)
          · rw [if_neg cw] at hew
            clear hW
            simp only [n130, r130, w3, w4, w5, w6, w9, w10, w12, cw, ld, st, ix, List.append_nil, Array.size_setIfInBounds, encL_len, hwk, SB, Nat.reduceLT, callee, aOp, ne_eq, Nat.reduceEqDiff, aBin, aUn, if_true, if_false, reduceCtorEq, frame0, place, notTuple, Nat.reduceAdd, Nat.reduceLeDiff, resVal, dite_true, dite_false, Int.reduceEq, Int.reduceLT, Int.reduceLE]
            exact hN (k, i', dw) _ _ ⟨by simp only; omega, by simp only; omega, by simp only; omega, (by simp only [w3, FB, Nat.reduceEqDiff]), (by simp only [w4, FB, Nat.reduceEqDiff]), (by simp only [w5, FB, Nat.reduceEqDiff]), (by simp only [w6, FB, Nat.reduceEqDiff]), (by simp only [w9, FB, Nat.reduceEqDiff]), (by simp only [FB, Nat.reduceEqDiff]), by simp, hdw, by rw [he, hfd, fixUpC, if_pos hB, hU, hew]⟩ (by simp only; omega)
        · have hBi : ¬ (2 : Int) ≤ ((b - i' : Nat) : Int) := by omega
          simp only [n130, r130, v30, v31, v32, v33, v39, v310, hwb, hBi, hwk, v11, cv, ld, st, ix, List.append_nil, Array.size_setIfInBounds, encL_len, SB, Nat.reduceLT, callee, aOp, ne_eq, Nat.reduceEqDiff, aBin, aUn, if_true, if_false, reduceCtorEq, frame0, place, notTuple, Nat.reduceAdd, Nat.reduceLeDiff, resVal, dite_true, dite_false, Int.reduceEq, Int.reduceLT, Int.reduceLE]
          exact hN (k, i', dv) _ _ ⟨by simp only; omega, by simp only; omega, by simp only; omega, (by simp only [v30, FB, Nat.reduceEqDiff]), (by simp only [v31, FB, Nat.reduceEqDiff]), (by simp only [v32, FB, Nat.reduceEqDiff]), (by simp only [v33, FB, Nat.reduceEqDiff]), (by simp only [v39, FB, Nat.reduceEqDiff]), (by simp only [FB, Nat.reduceEqDiff]), by simp [swp], by simp [swp, hdv], by rw [he, hfd, fixUpC, if_neg hB]⟩ (by simp only; omega)
    · have hAi : ¬ (2 : Int) ≤ ((i' - a : Nat) : Int) := by omega
      have hfd : fixDownC (ltC c) a i' (swp d1 i' (i' - 1)) = swp d1 i' (i' - 1) := by rw [fixDownC, if_neg hA]
      have hsz : (swp d1 i' (i' - 1)).size = n := by simp [swp, hd1]
      by_cases hB : 2 ≤ b - i'
      · have hBi : (2 : Int) ≤ ((b - i' : Nat) : Int) := by omega
        simp only [n130, r130, q0, q1, q2, q3, q9, q10, hwb, hBi, hwi1, c2, c3, c1', c4', hwi, hwl, hwa, hAi, hd1, i5, i6, hc, ld, st, ix, List.append_nil, Array.size_setIfInBounds, encL_len, SB, Nat.reduceLT, callee, aOp, ne_eq, Nat.reduceEqDiff, aBin, aUn, if_true, if_false, reduceCtorEq, frame0, place, notTuple, Nat.reduceAdd, Nat.reduceLeDiff, resVal, dite_true, dite_false, Int.reduceEq, Int.reduceLT, Int.reduceLE]
        generalize hU : shiftUp (ltC c) b (i' + 1) (swp d1 i' (i' - 1)) = U
        refine Ret_rounds (S := Nat × Array Go.Net.Leg) (fun s => b + 1 - s.1) (fun s fr H => i' + 1 ≤ s.1 ∧ s.1 ≤ b ∧ fr 0 = .slice p n cap ∧ fr 1 = .int .i64 (a : Int) ∧ fr 2 = .int .i64 (b : Int) ∧ fr 3 = .func (.func cl) #[] cs.toArray ∧ fr 9 = .int .i64 (i' : Int) ∧ fr 10 = .int .i64 (5 - ((k + 1 : Nat) : Int)) ∧ fr 12 = .int .i64 (s.1 : Int) ∧
          H = DH encL G B s.2 ++ X ∧ s.2.size = n ∧ U = shiftUp (ltC c) b s.1 s.2) (i' + 1, swp d1 i' (i' - 1)) ⟨by simp only; omega, by simp only; omega, (by simp only [q0, FB, Nat.reduceEqDiff]), (by simp only [q1, FB, Nat.reduceEqDiff]), (by simp only [q2, FB, Nat.reduceEqDiff]), (by simp only [q3, FB, Nat.reduceEqDiff]), (by simp only [q9, FB, Nat.reduceEqDiff]), (by simp only [q10, FB, Nat.reduceEqDiff]), (by simp only [FB, Nat.reduceEqDiff]), by simp [swp], by simp [swp, hd1], hU.symm⟩ ?_
        rintro ⟨w, dw⟩ frw Hw ⟨w1, w2, w3, w4, w5, w6, w9, w10, w12, rfl, hdw, hew⟩ hW
        simp only at w1 w2 w12 hdw hew
        rw [Ret_code l130_1.eq_1]
        unfold shiftUp at hew
        by_cases cw : w < b
        · have iw : w < n := by omega
          have iw1 : w - 1 < n := by omega
          have hww : IntKind.i64.wrap ((w : Int) - 1) = ((w - 1 : Nat) : Int) := wrap_pred (by omega) (by omega)
          have hww1 : IntKind.i64.wrap ((w : Int) + 1) = ((w + 1 : Nat) : Int) := wrap_nat (by omega)
          by_cases cw2 : c dw[w]! dw[w - 1]! < 0
          · rw [if_pos cw, if_neg (by simp [ltC, cw2])] at hew
            simp only [n130, r130, w3, w4, w5, w6, w9, w10, w12, cw, cw2, hww, hww1, ld, st, ix, List.append_nil, Array.size_setIfInBounds, encL_len, hdw, iw, iw1, hc, SB, Nat.reduceLT, callee, aOp, ne_eq, Nat.reduceEqDiff, aBin, aUn, if_true, if_false, reduceCtorEq, frame0, place, notTuple, Nat.reduceAdd, Nat.reduceLeDiff, resVal, dite_true, dite_false, Int.reduceEq, Int.reduceLT, Int.reduceLE]
            exact hW (w + 1, swp dw w (w - 1)) _ _ ⟨by simp only; omega, by simp only; omega, (by simp only [w3, FB, Nat.reduceEqDiff]), (by simp only [w4, FB, Nat.reduceEqDiff]), (by simp only [w5, FB, Nat.reduceEqDiff]), (by simp only [w6, FB, Nat.reduceEqDiff]), (by simp only [w9, FB, Nat.reduceEqDiff]), (by simp only [w10, FB, Nat.reduceEqDiff]), (by simp only [FB, Nat.reduceEqDiff]), by simp [swp], by simp [swp, hdw], hew⟩ (by simp only; omega)
          · rw [if_pos cw, if_pos (by simp [ltC, cw2])] at hew
            clear hW
            simp only [n130, r130, w3, w4, w5, w6, w9, w10, w12, cw, cw2, hww, hww1, ld, st, ix, List.append_nil, Array.size_setIfInBounds, encL_len, hdw, iw, iw1, hc, hwk, SB, Nat.reduceLT, callee, aOp, ne_eq, Nat.reduceEqDiff, aBin, aUn, if_true, if_false, reduceCtorEq, frame0, place, notTuple, Nat.reduceAdd, Nat.reduceLeDiff, resVal, dite_true, dite_false, Int.reduceEq, Int.reduceLT, Int.reduceLE]
            exact hN (k, i', dw) _ _ ⟨by simp only; omega, by simp only; omega, by simp only; omega, (by simp only [w3, FB, Nat.reduceEqDiff]), (by simp only [w4, FB, Nat.reduceEqDiff]), (by simp only [w5, FB, Nat.reduceEqDiff]), (by simp only [w6, FB, Nat.reduceEqDiff]), (by simp only [w9, FB, Nat.reduceEqDiff]), (by simp only [FB, Nat.reduceEqDiff]), by simp, hdw, by rw [he, hfd, fixUpC, if_pos hB, hU, hew]⟩ (by simp only; omega)
        · rw [if_neg cw] at hew
          clear hW
          simp only [n130, r130, w3, w4, w5, w6, w9, w10, w12, cw, ld, st, ix, List.append_nil, Array.size_setIfInBounds, encL_len, hwk, SB, Nat.reduceLT, callee, aOp, ne_eq, Nat.reduceEqDiff, aBin, aUn, if_true, if_false, reduceCtorEq, frame0, place, notTuple, Nat.reduceAdd, Nat.reduceLeDiff, resVal, dite_true, dite_false, Int.reduceEq, Int.reduceLT, Int.reduceLE]
          exact hN (k, i', dw) _ _ ⟨by simp only; omega, by simp only; omega, by simp only; omega, (by simp only [w3, FB, Nat.reduceEqDiff]), (by simp only [w4, FB, Nat.reduceEqDiff]), (by simp only [w5, FB, Nat.reduceEqDiff]), (by simp only [w6, FB, Nat.reduceEqDiff]), (by simp only [w9, FB, Nat.reduceEqDiff]), (by simp only [FB, Nat.reduceEqDiff]), by simp, hdw, by rw [he, hfd, fixUpC, if_pos hB, hU, hew]⟩ (by simp only; omega)
      · have hBi : ¬ (2 : Int) ≤ ((b - i' : Nat) : Int) := by omega
        simp only [n130, r130, q0, q1, q2, q3, q9, q10, hwb, hBi, hwk, c2, c3, c1', c4', hwi, hwl, hwa, hAi, hd1, i5, i6, hc, ld, st, ix, List.append_nil, Array.size_setIfInBounds, encL_len, SB, Nat.reduceLT, callee, aOp, ne_eq, Nat.reduceEqDiff, aBin, aUn, if_true, if_false, reduceCtorEq, frame0, place, notTuple, Nat.reduceAdd, Nat.reduceLeDiff, resVal, dite_true, dite_false, Int.reduceEq, Int.reduceLT, Int.reduceLE]
        exact hN (k, i', swp d1 i' (i' - 1)) _ _ ⟨by simp only; omega, by simp only; omega, by simp only; omega, (by simp only [q0, FB, Nat.reduceEqDiff]), (by simp only [q1, FB, Nat.reduceEqDiff]), (by simp only [q2, FB, Nat.reduceEqDiff]), (by simp only [q3, FB, Nat.reduceEqDiff]), (by simp only [q9, FB, Nat.reduceEqDiff]), (by simp only [FB, Nat.reduceEqDiff]), by simp [swp], by simp [swp, hd1], by rw [he, hfd, fixUpC, if_neg hB]⟩ (by simp only; omega)
section
variable {α : Type} {enc : α → List Value} {G X : Heap} {B : Nat} {d : Array α} {c : Blk}
theorem cnt_len : (DH enc G B d ++ X).length = G.length + X.length := by rw [List.length_append, DH_len]
theorem cnt_get : hget (DH enc G B d ++ (X ++ [c])) (G.length + X.length) = c := by
  rw [← List.append_assoc, ← cnt_len (enc := enc) (B := B) (d := d)]; exact hget_new0
theorem cnt_set {c' : Blk} : (DH enc G B d ++ (X ++ [c])).set (G.length + X.length) c' = DH enc G B d ++ (X ++ [c']) := by
  rw [← List.append_assoc, ← cnt_len (enc := enc) (B := B) (d := d), set_new0]; simp
end
theorem ord_ok [OB] {G X : Heap} {B lim cap n : Nat} {p : Option Addr} {c : Go.Net.Leg → Go.Net.Leg → Int} {cl : FuncId} {cs : List Value} (hp : p = some ⟨B, 0, none⟩) (hB : B < G.length) (hl : lim ≤ B) (hn2 : n < 2 ^ 61) (hc : ∀ (mp : Bool) (lim : Nat) (x y : Go.Net.Leg) (H : Heap) (Q : Value → Heap → Prop), CallR E mp lim cl (.agg (encL x).toArray :: .agg (encL y).toArray :: cs) H Q = Q (.int .i64 (c x y)) H) {d : Array Go.Net.Leg} {a b s : Nat} (hd : d.size = n) (ha : a < n) (hb : b < n) (hs : s < 100) :
    ∃ x y s' : Nat, (x = a ∧ y = b ∨ x = b ∧ y = a) ∧ s' ≤ s + 1 ∧ ∀ Q, CallR E false lim 142 [.slice p n cap, .int .i64 (a : Int), .int .i64 (b : Int), .pointer (some ⟨G.length + X.length, 0, none⟩), .func (.func cl) #[] cs.toArray] (DH encL G B d ++ (X ++ [.cells false [.int .i64 (s : Int)]])) Q =
      Q (.tuple #[.int .i64 (x : Int), .int .i64 (y : Int)]) (DH encL G B d ++ (X ++ [.cells false [.int .i64 (s' : Int)]])) := by
  have ld := fun (i : Nat) (X : Heap) (d : Array Go.Net.Leg) (hd : d.size = n) (hi : i < n) => DH_ld (X := X) (d := d) (i := i) hp hB encL_len (by omega); have st := fun (i : Nat) (X : Heap) (d : Array Go.Net.Leg) (hd : d.size = n) (hi : i < n) (y : Go.Net.Leg) => DH_st (X := X) (d := d) (i := i) (y := y) hp hB hl encL_len (by omega); have ix := fun (i : Nat) (hi : i < n) c (k : IntKind) (H : Heap) => DH_idx (e := 8) (i := i) (n := n) (c := c) (k := k) (H := H) hp hi
  have hw : IntKind.i64.wrap ((s : Int) + 1) = ((s + 1 : Nat) : Int) := wrap_nat (by omega)
  have hlG : lim ≤ G.length + X.length := by omega
  by_cases c1 : c d[b]! d[a]! < 0
  · refine ⟨b, a, s + 1, .inr ⟨rfl, rfl⟩, Nat.le_refl _, fun Q => runs (by decide) e142 rfl ?_⟩
    rw [b142, c142]
    simp only [n142, r142, ld, st, ix, List.append_nil, Array.size_setIfInBounds, encL_len, hd, ha, hb, hc, c1, cnt_get, cnt_set, hw, hlG, SB, Nat.reduceLT, callee, aOp, ne_eq, Nat.reduceEqDiff, aBin, aUn, if_true, if_false, reduceCtorEq, frame0, place, notTuple, Nat.reduceAdd, Nat.reduceLeDiff, resVal, dite_true, dite_false, Int.reduceEq, Int.reduceLT, Int.reduceLE]
  · refine ⟨a, b, s, .inl ⟨rfl, rfl⟩, by omega, fun Q => runs (by decide) e142 rfl ?_⟩
    rw [b142, c142]
    simp only [n142, r142, ld, st, ix, List.append_nil, Array.size_setIfInBounds, encL_len, hd, ha, hb, hc, c1, SB, Nat.reduceLT, callee, aOp, ne_eq, Nat.reduceEqDiff, aBin, aUn, if_true, if_false, reduceCtorEq, frame0, place, notTuple, Nat.reduceAdd, Nat.reduceLeDiff, resVal, dite_true, dite_false, Int.reduceEq, Int.reduceLT, Int.reduceLE]
theorem med_ok [OB] {G X : Heap} {B lim cap n : Nat} {p : Option Addr} {c : Go.Net.Leg → Go.Net.Leg → Int} {cl : FuncId} {cs : List Value} (hp : p = some ⟨B, 0, none⟩) (hB : B < G.length) (hl : lim ≤ B) (hn2 : n < 2 ^ 61) (hc : ∀ (mp : Bool) (lim : Nat) (x y : Go.Net.Leg) (H : Heap) (Q : Value → Heap → Prop), CallR E mp lim cl (.agg (encL x).toArray :: .agg (encL y).toArray :: cs) H Q = Q (.int .i64 (c x y)) H) {d : Array Go.Net.Leg} {a b e s : Nat} (hd : d.size = n) (ha : a < n) (hb : b < n) (he : e < n) (hs : s < 90) :
    ∃ x s' : Nat, (x = a ∨ x = b ∨ x = e) ∧ s' ≤ s + 3 ∧ ∀ Q, CallR E false lim 141 [.slice p n cap, .int .i64 (a : Int), .int .i64 (b : Int), .int .i64 (e : Int), .pointer (some ⟨G.length + X.length, 0, none⟩), .func (.func cl) #[] cs.toArray] (DH encL G B d ++ (X ++ [.cells false [.int .i64 (s : Int)]])) Q =
      Q (.int .i64 (x : Int)) (DH encL G B d ++ (X ++ [.cells false [.int .i64 (s' : Int)]])) := by
  obtain ⟨x1, y1, s1, h1, k1, o1⟩ := ord_ok (X := X) (cap := cap) (lim := lim) hp hB hl hn2 hc hd ha hb (show s < 100 by omega)
  obtain ⟨x2, y2, s2, h2, k2, o2⟩ := ord_ok (X := X) (cap := cap) (lim := lim) hp hB hl hn2 hc hd (show y1 < n by omega) he (show s1 < 100 by omega)
  obtain ⟨x3, y3, s3, h3, k3, o3⟩ := ord_ok (X := X) (cap := cap) (lim := lim) hp hB hl hn2 hc hd (show x1 < n by omega) (show x2 < n by omega) (show s2 < 100 by omega)
  refine ⟨y3, s3, by omega, by omega, fun Q => runs (by decide) e141 rfl ?_⟩
  rw [b141, c141]
  simp only [n141, r141, o1, o2, o3, SB, Nat.reduceLT, callee, aOp, ne_eq, Nat.reduceEqDiff, aBin, aUn, if_true, if_false, reduceCtorEq, frame0, place, notTuple, Nat.reduceAdd, Nat.reduceLeDiff, resVal, dite_true, dite_false, Int.reduceEq, Int.reduceLT, Int.reduceLE]
theorem meda_ok [OB] {G X : Heap} {B lim cap n : Nat} {p : Option Addr} {c : Go.Net.Leg → Go.Net.Leg → Int} {cl : FuncId} {cs : List Value} (hp : p = some ⟨B, 0, none⟩) (hB : B < G.length) (hl : lim ≤ B) (hn2 : n < 2 ^ 61) (hc : ∀ (mp : Bool) (lim : Nat) (x y : Go.Net.Leg) (H : Heap) (Q : Value → Heap → Prop), CallR E mp lim cl (.agg (encL x).toArray :: .agg (encL y).toArray :: cs) H Q = Q (.int .i64 (c x y)) H) {d : Array Go.Net.Leg} {a s : Nat} (hd : d.size = n) (h0 : 0 < a) (ha : a + 1 < n) (hs : s < 90) :
    ∃ x s' : Nat, a ≤ x + 1 ∧ x ≤ a + 1 ∧ s' ≤ s + 3 ∧ ∀ Q, CallR E false lim 140 [.slice p n cap, .int .i64 (a : Int), .pointer (some ⟨G.length + X.length, 0, none⟩), .func (.func cl) #[] cs.toArray] (DH encL G B d ++ (X ++ [.cells false [.int .i64 (s : Int)]])) Q =
      Q (.int .i64 (x : Int)) (DH encL G B d ++ (X ++ [.cells false [.int .i64 (s' : Int)]])) := by
  obtain ⟨x1, s1, h1, k1, o1⟩ := med_ok (X := X) (cap := cap) (lim := lim) (a := a - 1) (b := a) (e := a + 1) hp hB hl hn2 hc hd (by omega) (by omega) (by omega) hs
  have hw1 : IntKind.i64.wrap ((a : Int) - 1) = ((a - 1 : Nat) : Int) := wrap_pred (by omega) (by omega)
  have hw2 : IntKind.i64.wrap ((a : Int) + 1) = ((a + 1 : Nat) : Int) := wrap_nat (by omega)
  refine ⟨x1, s1, by omega, by omega, k1, fun Q => runs (by decide) e140 rfl ?_⟩
  rw [b140, c140]
  simp only [n140, r140, hw1, hw2, o1, SB, Nat.reduceLT, callee, aOp, ne_eq, Nat.reduceEqDiff, aBin, aUn, if_true, if_false, reduceCtorEq, frame0, place, notTuple, Nat.reduceAdd, Nat.reduceLeDiff, resVal, dite_true, dite_false, Int.reduceEq, Int.reduceLT, Int.reduceLE]
theorem wrap_int {m : Int} {k : Nat} (h : m = (k : Int)) (hk : k < 2 ^ 62) : IntKind.i64.wrap m = (k : Int) := by
  subst h; exact wrap_id (by omega) (by omega)
theorem tdiv_nat {a b : Nat} : (a : Int).tdiv (b : Int) = ((a / b : Nat) : Int) := by
  rw [Int.tdiv_eq_ediv_of_nonneg (by omega)]; rfl
theorem cho_ok [OB] {G X : Heap} {B lim cap n : Nat} {p : Option Addr} {c : Go.Net.Leg → Go.Net.Leg → Int} {cl : FuncId} {cs : List Value} (hp : p = some ⟨B, 0, none⟩) (hB : B < G.length) (hl : lim ≤ B) (hn2 : n < 2 ^ 61) (hc : ∀ (mp : Bool) (lim : Nat) (x y : Go.Net.Leg) (H : Heap) (Q : Value → Heap → Prop), CallR E mp lim cl (.agg (encL x).toArray :: .agg (encL y).toArray :: cs) H Q = Q (.int .i64 (c x y)) H) {d : Array Go.Net.Leg} {a b : Nat} (hd : d.size = n) (hb : b ≤ n) (hab : a + 12 < b) :
    ∃ v h s : Nat, a ≤ v ∧ v < b ∧ h ≤ 2 ∧ ∀ Q, CallR E false lim 128 [.slice p n cap, .int .i64 (a : Int), .int .i64 (b : Int), .func (.func cl) #[] cs.toArray] (DH encL G B d ++ X) Q =
      Q (.tuple #[.int .i64 (v : Int), .int .i64 (h : Int)]) (DH encL G B d ++ (X ++ [.cells false [.int .i64 (s : Int)]])) := by
  obtain ⟨l, rfl⟩ : ∃ l, b = a + l := ⟨b - a, by omega⟩
  have hw0 : IntKind.i64.wrap (((a + l : Nat) : Int) - (a : Int)) = (l : Int) := wrap_int (by omega) (by omega)
  have hq : (l : Int).tdiv 4 = ((l / 4 : Nat) : Int) := tdiv_nat (b := 4)
  have hw1 : IntKind.i64.wrap ((l / 4 : Nat) : Int) = ((l / 4 : Nat) : Int) := wrap_int rfl (by omega)
  have hw2 : IntKind.i64.wrap (((l / 4 : Nat) : Int) * 1) = ((l / 4 : Nat) : Int) := wrap_int (by omega) (by omega)
  have hw3 : IntKind.i64.wrap (((l / 4 : Nat) : Int) * 2) = ((l / 4 * 2 : Nat) : Int) := wrap_int (by omega) (by omega)
  have hw4 : IntKind.i64.wrap (((l / 4 : Nat) : Int) * 3) = ((l / 4 * 3 : Nat) : Int) := wrap_int (by omega) (by omega)
  have hw5 : IntKind.i64.wrap ((a : Int) + ((l / 4 : Nat) : Int)) = ((a + l / 4 : Nat) : Int) := wrap_int (by omega) (by omega)
  have hw6 : IntKind.i64.wrap ((a : Int) + ((l / 4 * 2 : Nat) : Int)) = ((a + l / 4 * 2 : Nat) : Int) := wrap_int (by omega) (by omega)
  have hw7 : IntKind.i64.wrap ((a : Int) + ((l / 4 * 3 : Nat) : Int)) = ((a + l / 4 * 3 : Nat) : Int) := wrap_int (by omega) (by omega)
  have c8 : (8 : Int) ≤ (l : Int) := by omega
  have key : ∀ (x y z s : Nat), a ≤ x → x < a + l → a ≤ y → y < a + l → a ≤ z → z < a + l → s < 80 → ∃ v s' : Nat, a ≤ v ∧ v < a + l ∧ ∀ Q, CallR E false lim 141 [.slice p n cap, .int .i64 (x : Int), .int .i64 (y : Int), .int .i64 (z : Int), .pointer (some ⟨G.length + X.length, 0, none⟩), .func (.func cl) #[] cs.toArray] (DH encL G B d ++ (X ++ [.cells false [.int .i64 (s : Int)]])) Q =
      Q (.int .i64 (v : Int)) (DH encL G B d ++ (X ++ [.cells false [.int .i64 (s' : Int)]])) := by
    intro x y z s q1 q2 q3 q4 q5 q6 q7
    obtain ⟨v, s', m1, _, m2⟩ := med_ok (X := X) (cap := cap) (lim := lim) (a := x) (b := y) (e := z) hp hB hl hn2 hc hd (by omega) (by omega) (by omega) (show s < 90 by omega)
    exact ⟨v, s', by omega, by omega, m2⟩
  have fin : ∀ (v s' : Nat) , ∃ h : Nat, h ≤ 2 ∧ ((s' = 0 ∧ h = 1) ∨ (¬ (s' : Int) = 0 ∧ s' = 12 ∧ h = 2) ∨ (¬ (s' : Int) = 0 ∧ ¬ (s' : Int) = 12 ∧ h = 0)) := by
    intro v s'
    by_cases z : s' = 0
    · exact ⟨1, by omega, .inl ⟨z, rfl⟩⟩
    · by_cases z2 : s' = 12
      · exact ⟨2, by omega, .inr (.inl ⟨by omega, z2, rfl⟩)⟩
      · exact ⟨0, by omega, .inr (.inr ⟨by omega, by omega, rfl⟩)⟩
  by_cases c50 : 50 ≤ l
  · have c50' : (50 : Int) ≤ (l : Int) := by omega
    obtain ⟨x1, s1, h1, h2, h3, o1⟩ := meda_ok (X := X) (cap := cap) (lim := lim) (a := a + l / 4) (s := 0) hp hB hl hn2 hc hd (by omega) (by omega) (by omega)
    obtain ⟨x2, s2, h4, h5, h6, o2⟩ := meda_ok (X := X) (cap := cap) (lim := lim) (a := a + l / 4 * 2) (s := s1) hp hB hl hn2 hc hd (by omega) (by omega) (by omega)
    obtain ⟨x3, s3, h7, h8, h9, o3⟩ := meda_ok (X := X) (cap := cap) (lim := lim) (a := a + l / 4 * 3) (s := s2) hp hB hl hn2 hc hd (by omega) (by omega) (by omega)
    obtain ⟨v, s', m1, m2, om⟩ := key x1 x2 x3 s3 (by omega) (by omega) (by omega) (by omega) (by omega) (by omega) (by omega)
    obtain ⟨h, hh, hc'⟩ := fin v s'
    refine ⟨v, h, s', m1, m2, hh, fun Q => runs (by decide) e128 rfl ?_⟩
    rw [b128, c128]
    simp only [show ((0 : Nat) : Int) = 0 from rfl] at o1
    rcases hc' with ⟨rfl, rfl⟩ | ⟨z1, rfl, rfl⟩ | ⟨z1, z2, rfl⟩
    · simp only [n128, r128, hw0, hq, hw1, hw2, hw3, hw4, hw5, hw6, hw7, c8, c50', o1, o2, o3, om, cnt_get, cnt_set, DH_len, SB, Nat.reduceLT, callee, aOp, ne_eq, Nat.reduceEqDiff, aBin, aUn, if_true, if_false, reduceCtorEq, frame0, place, notTuple, Nat.reduceAdd, Nat.reduceLeDiff, resVal, dite_true, dite_false, Int.reduceEq, Int.reduceLT, Int.reduceLE]
    · simp only [n128, r128, hw0, hq, hw1, hw2, hw3, hw4, hw5, hw6, hw7, c8, c50', o1, o2, o3, om, cnt_get, cnt_set, DH_len, SB, Nat.reduceLT, callee, aOp, ne_eq, Nat.reduceEqDiff, aBin, aUn, if_true, if_false, reduceCtorEq, frame0, place, notTuple, Nat.reduceAdd, Nat.reduceLeDiff, resVal, dite_true, dite_false, Int.reduceEq, Int.reduceLT, Int.reduceLE]
    · simp only [n128, r128, hw0, hq, hw1, hw2, hw3, hw4, hw5, hw6, hw7, c8, c50', o1, o2, o3, om, z1, z2, cnt_get, cnt_set, DH_len, SB, Nat.reduceLT, callee, aOp, ne_eq, Nat.reduceEqDiff, aBin, aUn, if_true, if_false, reduceCtorEq, frame0, place, notTuple, Nat.reduceAdd, Nat.reduceLeDiff, resVal, dite_true, dite_false, Int.reduceEq, Int.reduceLT, Int.reduceLE]
  · have c50' : ¬ (50 : Int) ≤ (l : Int) := by omega
    obtain ⟨v, s', m1, m2, om⟩ := key (a + l / 4) (a + l / 4 * 2) (a + l / 4 * 3) 0 (by omega) (by omega) (by omega) (by omega) (by omega) (by omega) (by omega)
    obtain ⟨h, hh, hc'⟩ := fin v s'
    refine ⟨v, h, s', m1, m2, hh, fun Q => runs (by decide) e128 rfl ?_⟩
    rw [b128, c128]
    simp only [show ((0 : Nat) : Int) = 0 from rfl] at om
    rcases hc' with ⟨rfl, rfl⟩ | ⟨z1, rfl, rfl⟩ | ⟨z1, z2, rfl⟩
    · simp only [n128, r128, hw0, hq, hw1, hw2, hw3, hw4, hw5, hw6, hw7, c8, c50', om, cnt_get, cnt_set, DH_len, SB, Nat.reduceLT, callee, aOp, ne_eq, Nat.reduceEqDiff, aBin, aUn, if_true, if_false, reduceCtorEq, frame0, place, notTuple, Nat.reduceAdd, Nat.reduceLeDiff, resVal, dite_true, dite_false, Int.reduceEq, Int.reduceLT, Int.reduceLE]
    · simp only [n128, r128, hw0, hq, hw1, hw2, hw3, hw4, hw5, hw6, hw7, c8, c50', om, cnt_get, cnt_set, DH_len, SB, Nat.reduceLT, callee, aOp, ne_eq, Nat.reduceEqDiff, aBin, aUn, if_true, if_false, reduceCtorEq, frame0, place, notTuple, Nat.reduceAdd, Nat.reduceLeDiff, resVal, dite_true, dite_false, Int.reduceEq, Int.reduceLT, Int.reduceLE]
    · simp only [n128, r128, hw0, hq, hw1, hw2, hw3, hw4, hw5, hw6, hw7, c8, c50', om, z1, z2, cnt_get, cnt_set, DH_len, SB, Nat.reduceLT, callee, aOp, ne_eq, Nat.reduceEqDiff, aBin, aUn, if_true, if_false, reduceCtorEq, frame0, place, notTuple, Nat.reduceAdd, Nat.reduceLeDiff, resVal, dite_true, dite_false, Int.reduceEq, Int.reduceLT, Int.reduceLE]
def len8 : List UInt8 := [0, 1, 2, 2, 3, 3, 3, 3, 4, 4, 4, 4, 4, 4, 4, 4, 5, 5, 5, 5, 5, 5, 5, 5, 5, 5, 5, 5, 5, 5, 5, 5, 6, 6, 6, 6, 6, 6, 6, 6, 6, 6, 6, 6, 6, 6, 6, 6, 6, 6, 6, 6, 6, 6, 6, 6, 6, 6, 6, 6, 6, 6, 6, 6, 7, 7, 7, 7, 7, 7, 7, 7, 7, 7, 7, 7, 7, 7, 7, 7, 7, 7, 7, 7, 7, 7, 7, 7, 7, 7, 7, 7, 7, 7, 7, 7, 7, 7, 7, 7, 7, 7, 7, 7, 7, 7, 7, 7, 7, 7, 7, 7, 7, 7, 7, 7, 7, 7, 7, 7, 7, 7, 7, 7, 7, 7, 7, 7, 8, 8, 8, 8, 8, 8, 8, 8, 8, 8, 8, 8, 8, 8, 8, 8, 8, 8, 8, 8, 8, 8, 8, 8, 8, 8, 8, 8, 8, 8, 8, 8, 8, 8, 8, 8, 8, 8, 8, 8, 8, 8, 8, 8, 8, 8, 8, 8, 8, 8, 8, 8, 8, 8, 8, 8, 8, 8, 8, 8, 8, 8, 8, 8, 8, 8, 8, 8, 8, 8, 8, 8, 8, 8, 8, 8, 8, 8, 8, 8, 8, 8, 8, 8, 8, 8, 8, 8, 8, 8, 8, 8, 8, 8, 8, 8, 8, 8, 8, 8, 8, 8, 8, 8, 8, 8, 8, 8, 8, 8, 8, 8, 8, 8, 8, 8, 8, 8, 8, 8, 8, 8, 8, 8, 8, 8, 8, 8]
theorem len8_len : len8.length = 256 := by decide
theorem len8_ok : ∀ m, m < 256 → m < 2 ^ (len8.getD m 0).toNat ∧ (m = 0 ∨ 2 ^ (len8.getD m 0).toNat ≤ 2 * m) ∧ (len8.getD m 0).toNat ≤ 8 := by decide +kernel
theorem len8_get {m : Nat} (h : m < 256) : len8[m]? = some (len8.getD m 0) := by
  rw [List.getD_eq_getElem?_getD, List.getElem?_eq_getElem (by rw [len8_len]; exact h)]; rfl
theorem wrap64 {n : Int} : IntKind.u64.wrap n = n % 2 ^ 64 := by simp [IntKind.wrap, IntKind.bits, IntKind.signed]
theorem wrap8 {n : Int} : IntKind.u8.wrap n = n % 2 ^ 8 := by simp [IntKind.wrap, IntKind.bits, IntKind.signed]
theorem fd8 {a : Int} : a.fdiv (2 ^ min (Int.toNat 8) IntKind.u64.bits) = a / 256 := by
  rw [show (2 : Int) ^ min (Int.toNat 8) IntKind.u64.bits = 256 from by decide, Int.fdiv_eq_ediv_of_nonneg _ (by decide)]
theorem len_ok [OB] {x : Nat} (hx : x < 65536) (h0 : 0 < x) : ∃ L : Nat, x < 2 ^ L ∧ 2 ^ L ≤ 2 * x ∧ L ≤ 16 ∧ ∀ (mp : Bool) (lim : Nat) (H : Heap) (Q : Value → Heap → Prop), CallR E mp lim 123 [.int .u64 (x : Int)] H Q = Q (.int .i64 (L : Int)) H := by
  have key : ∃ L : Nat, x < 2 ^ L ∧ 2 ^ L ≤ 2 * x ∧ L ≤ 16 ∧ ∀ (mp : Bool) (lim : Nat) (H : Heap) (Q : Value → Heap → Prop), CallR E mp lim 134 [.int .u64 (x : Int)] H Q = Q (.int .i64 (L : Int)) H := by
    have c32 : ¬ (4294967296 : Int) ≤ (x : Int) := by omega
    have c16 : ¬ (65536 : Int) ≤ (x : Int) := by omega
    by_cases c8 : 256 ≤ x
    · obtain ⟨h1, h2, h3⟩ := len8_ok (x / 256) (by omega)
      have hg := len8_get (m := x / 256) (by omega)
      generalize hb : len8.getD (x / 256) 0 = b at h1 h2 h3 hg
      have h2' : 2 ^ b.toNat ≤ 2 * (x / 256) := by rcases h2 with h | h <;> omega
      have e : (2 : Nat) ^ (8 + b.toNat) = 256 * 2 ^ b.toNat := by rw [Nat.pow_add]
      refine ⟨8 + b.toNat, by rw [e]; omega, by rw [e]; omega, by omega, fun mp lim H Q => ?_⟩
      refine pc (by decide) e134 rfl rfl ?_
      rw [b134, c134]
      unfold len8 at hg
      have c8' : (256 : Int) ≤ (x : Int) := by omega
      have w1 : IntKind.u64.wrap ((x : Int) / 256) = ((x / 256 : Nat) : Int) := by rw [wrap64]; omega
      have w2 : IntKind.u8.wrap ((x : Int) / 256) = ((x / 256 : Nat) : Int) := by rw [wrap8]; omega
      have w3 : IntKind.i64.wrap ((b.toNat : Nat) : Int) = (b.toNat : Int) := wrap_int rfl (by omega)
      have w4 : IntKind.i64.wrap (8 + (b.toNat : Int)) = ((8 + b.toNat : Nat) : Int) := wrap_int (by omega) (by omega)
      have w5 : IntKind.i64.wrap 8 = 8 := by decide
      have w6 : (0 : Int) ≤ ((x / 256 : Nat) : Int) := by omega
      simp only [n134, r134, c32, c16, c8', fd8, w1, w2, w3, w4, w5, w6, hg, Int.toNat_natCast, Int.zero_add, SB, Nat.reduceLT, callee, aOp, ne_eq, Nat.reduceEqDiff, aBin, aUn, if_true, if_false, reduceCtorEq, frame0, place, notTuple, Nat.reduceAdd, Nat.reduceLeDiff, resVal, dite_true, dite_false, Int.reduceEq, Int.reduceLT, Int.reduceLE]
    · obtain ⟨h1, h2, h3⟩ := len8_ok x (by omega)
      have hg := len8_get (m := x) (by omega)
      generalize hb : len8.getD x 0 = b at h1 h2 h3 hg
      refine ⟨b.toNat, h1, by rcases h2 with h | h <;> omega, by omega, fun mp lim H Q => ?_⟩
      refine pc (by decide) e134 rfl rfl ?_
      rw [b134, c134]
      unfold len8 at hg
      have c8' : ¬ (256 : Int) ≤ (x : Int) := by omega
      have w2 : IntKind.u8.wrap (x : Int) = (x : Int) := by rw [wrap8]; omega
      have w3 : IntKind.i64.wrap ((b.toNat : Nat) : Int) = (b.toNat : Int) := wrap_int rfl (by omega)
      have w6 : (0 : Int) ≤ (x : Int) := by omega
      simp only [n134, r134, c32, c16, c8', w2, w3, w6, hg, Int.toNat_natCast, Int.zero_add, SB, Nat.reduceLT, callee, aOp, ne_eq, Nat.reduceEqDiff, aBin, aUn, if_true, if_false, reduceCtorEq, frame0, place, notTuple, Nat.reduceAdd, Nat.reduceLeDiff, resVal, dite_true, dite_false, Int.reduceEq, Int.reduceLT, Int.reduceLE]
  obtain ⟨L, h1, h2, h3, h4⟩ := key
  refine ⟨L, h1, h2, h3, fun mp lim H Q => ?_⟩
  refine pc (by decide) e123 rfl rfl ?_
  rw [b123, c123]
  simp only [n123, r123, h4, SB, Nat.reduceLT, callee, aOp, ne_eq, Nat.reduceEqDiff, aBin, aUn, if_true, if_false, reduceCtorEq, frame0, place, notTuple, Nat.reduceAdd, Nat.reduceLeDiff, resVal, dite_true, dite_false, Int.reduceEq, Int.reduceLT, Int.reduceLE]
theorem npt_ok [OB] {x : Nat} (hx : x < 65536) (h0 : 0 < x) : ∃ m : Nat, 0 < m ∧ m ≤ 2 * x ∧ ∀ (mp : Bool) (lim : Nat) (H : Heap) (Q : Value → Heap → Prop), CallR E mp lim 138 [.int .i64 (x : Int)] H Q = Q (.int .u64 (m : Int)) H := by
  obtain ⟨L, h1, h2, h3, h4⟩ := len_ok hx h0
  refine ⟨2 ^ L, Nat.pow_pos (by decide), h2, fun mp lim H Q => ?_⟩
  refine pc (by decide) e138 rfl rfl ?_
  rw [b138, c138]
  have w1 : IntKind.u64.wrap (x : Int) = (x : Int) := by rw [wrap64]; omega
  have w2 : min L IntKind.u64.bits = L := by simp only [IntKind.bits]; omega
  have hp : (2 : Nat) ^ L < 2 ^ 18 := by omega
  have w3 : IntKind.u64.wrap (1 * 2 ^ L) = ((2 ^ L : Nat) : Int) := by
    rw [wrap64, Int.one_mul]
    have : ((2 : Int) ^ L) = ((2 ^ L : Nat) : Int) := by simp
    rw [this]; omega
  have c0 : ¬ (L : Int) < 0 := by omega
  simp only [n138, r138, w1, h4, c0, Int.toNat_natCast, w2, w3, SB, Nat.reduceLT, callee, aOp, ne_eq, Nat.reduceEqDiff, aBin, aUn, if_true, if_false, reduceCtorEq, frame0, place, notTuple, Nat.reduceAdd, Nat.reduceLeDiff, resVal, dite_true, dite_false, Int.reduceEq, Int.reduceLT, Int.reduceLE]
theorem xor_ok [OB] {α : Type} {enc : α → List Value} {G X : Heap} {B lim : Nat} {d : Array α} {s : Int} (hl : lim ≤ B) (hB : B < G.length) :
    ∃ s' : Int, (0 ≤ s' ∧ s' < 2 ^ 64) ∧ ∀ Q, CallR E false lim 139 [.pointer (some ⟨G.length + X.length, 0, none⟩)] (DH enc G B d ++ (X ++ [.cells false [.int .u64 s]])) Q = Q (.int .u64 s') (DH enc G B d ++ (X ++ [.cells false [.int .u64 s']])) := by
  have hlG : lim ≤ G.length + X.length := by omega
  have hw : ∀ m : Int, 0 ≤ IntKind.u64.wrap m ∧ IntKind.u64.wrap m < 2 ^ 64 := by intro m; rw [wrap64]; omega
  have key : CallR E false lim 139 [.pointer (some ⟨G.length + X.length, 0, none⟩)] (DH enc G B d ++ (X ++ [.cells false [.int .u64 s]])) fun v H' => ∃ s', (0 ≤ s' ∧ s' < 2 ^ 64) ∧ v = .int .u64 s' ∧ H' = DH enc G B d ++ (X ++ [.cells false [.int .u64 s']]) := by
    rw [CallR_run (E := E) (g := 139) (af := a139) (by simp [E, orc]) e139 rfl rfl]
    rw [b139, c139]
    simp only [n139, r139, cnt_get, cnt_set, hlG, List.append_nil, SB, Nat.reduceLT, callee, aOp, ne_eq, Nat.reduceEqDiff, aBin, aUn, if_true, if_false, reduceCtorEq, frame0, place, notTuple, Nat.reduceAdd, Nat.reduceLeDiff, resVal, dite_true, dite_false, Int.reduceEq, Int.reduceLT, Int.reduceLE]
    exact ⟨_, hw _, rfl, rfl⟩
  obtain ⟨k, v, H', hx, s', h1, rfl, rfl⟩ := key
  exact ⟨s', h1, fun Q => CallR.det hx⟩
theorem and_le {a b : Int} (hb : 0 ≤ b ∧ b < 2 ^ 64) : 0 ≤ IntKind.u64.wrap ((BitVec.ofInt IntKind.u64.bits a &&& BitVec.ofInt IntKind.u64.bits b).toNat : Int) ∧ IntKind.u64.wrap ((BitVec.ofInt IntKind.u64.bits a &&& BitVec.ofInt IntKind.u64.bits b).toNat : Int) ≤ b := by
  rw [wrap64]
  have h1 : (BitVec.ofInt IntKind.u64.bits a &&& BitVec.ofInt IntKind.u64.bits b).toNat ≤ (BitVec.ofInt IntKind.u64.bits b).toNat := by
    rw [BitVec.toNat_and]; exact Nat.and_le_right
  have h2 : ((BitVec.ofInt IntKind.u64.bits b).toNat : Int) = b := by
    rw [BitVec.toNat_ofInt]
    simp only [IntKind.bits]
    omega
  omega
theorem brk_ok [OB] {G X : Heap} {B lim cap n : Nat} {p : Option Addr} {c : Go.Net.Leg → Go.Net.Leg → Int} {cl : FuncId} {cs : List Value} (hp : p = some ⟨B, 0, none⟩) (hB : B < G.length) (hl : lim ≤ B) (hn2 : n < 2 ^ 61) (hc : ∀ (mp : Bool) (lim : Nat) (x y : Go.Net.Leg) (H : Heap) (Q : Value → Heap → Prop), CallR E mp lim cl (.agg (encL x).toArray :: .agg (encL y).toArray :: cs) H Q = Q (.int .i64 (c x y)) H) {d : Array Go.Net.Leg} {a b : Nat} (hd : d.size = n) (hb : b ≤ n) (hab : a + 12 < b) (hn3 : n < 65536) :
    ∃ d' s, d'.size = n ∧ PermIn a b d d' ∧ ∀ Q, CallR E false lim 127 [.slice p n cap, .int .i64 (a : Int), .int .i64 (b : Int), .func (.func cl) #[] cs.toArray] (DH encL G B d ++ X) Q = Q (.tuple #[]) (DH encL G B d' ++ (X ++ [.cells false [.int .u64 s]])) := by
  have key : CallR E false lim 127 [.slice p n cap, .int .i64 (a : Int), .int .i64 (b : Int), .func (.func cl) #[] cs.toArray] (DH encL G B d ++ X) fun v H' => ∃ d' s, d'.size = n ∧ PermIn a b d d' ∧ v = .tuple #[] ∧ H' = DH encL G B d' ++ (X ++ [.cells false [.int .u64 s]]) := by
    rw [CallR_run (E := E) (g := 127) (af := a127) (by simp [E, orc]) e127 rfl rfl]
    rw [b127, c127]
    have ld := fun (i : Nat) (X : Heap) (d : Array Go.Net.Leg) (hd : d.size = n) (hi : i < n) => DH_ld (X := X) (d := d) (i := i) hp hB encL_len (by omega); have st := fun (i : Nat) (X : Heap) (d : Array Go.Net.Leg) (hd : d.size = n) (hi : i < n) (y : Go.Net.Leg) => DH_st (X := X) (d := d) (i := i) (y := y) hp hB hl encL_len (by omega); have ix := fun (i : Nat) (hi : i < n) c (k : IntKind) (H : Heap) => DH_idx (e := 8) (i := i) (n := n) (c := c) (k := k) (H := H) hp hi
    have hlG : lim ≤ G.length + X.length := by omega
    obtain ⟨l, rfl⟩ : ∃ l, b = a + l := ⟨b - a, by omega⟩
    obtain ⟨m, hm0, hm1, hnpt⟩ := npt_ok (x := l) (by omega) (by omega)
    have hw0 : IntKind.i64.wrap (((a + l : Nat) : Int) - (a : Int)) = (l : Int) := wrap_int (by omega) (by omega)
    have hq : (l : Int).tdiv 4 = ((l / 4 : Nat) : Int) := tdiv_nat (b := 4)
    have hw1 : IntKind.i64.wrap ((l / 4 : Nat) : Int) = ((l / 4 : Nat) : Int) := wrap_int rfl (by omega)
    have hw3 : IntKind.i64.wrap (((l / 4 : Nat) : Int) * 2) = ((l / 4 * 2 : Nat) : Int) := wrap_int (by omega) (by omega)
    have hw6 : IntKind.i64.wrap ((a : Int) + ((l / 4 * 2 : Nat) : Int)) = ((a + l / 4 * 2 : Nat) : Int) := wrap_int (by omega) (by omega)
    have hw7 : IntKind.i64.wrap (((a + l / 4 * 2 : Nat) : Int) - 1) = ((a + l / 4 * 2 - 1 : Nat) : Int) := wrap_int (by omega) (by omega)
    have hw8 : IntKind.i64.wrap (((a + l / 4 * 2 : Nat) : Int) + 1) = ((a + l / 4 * 2 + 1 : Nat) : Int) := wrap_int (by omega) (by omega)
    have hwm : IntKind.u64.wrap ((m : Int) - 1) = ((m - 1 : Nat) : Int) := by rw [wrap64]; omega
    have c8 : (8 : Int) ≤ (l : Int) := by omega
    simp only [n127, r127, hw0, hq, hw1, hw3, hw6, hw7, c8, hnpt, cnt_get, cnt_set, DH_len, hlG, SB, Nat.reduceLT, callee, aOp, ne_eq, Nat.reduceEqDiff, aBin, aUn, if_true, if_false, reduceCtorEq, frame0, place, notTuple, Nat.reduceAdd, Nat.reduceLeDiff, resVal, dite_true, dite_false, Int.reduceEq, Int.reduceLT, Int.reduceLE]
    refine Ret_rounds (S := Nat × Array Go.Net.Leg × Int) (fun s => a + l + 5 - s.1) (fun s fr H => a < s.1 ∧ s.1 ≤ a + l / 4 * 2 + 2 ∧ fr 0 = .slice p n cap ∧ fr 1 = .int .i64 (a : Int) ∧ fr 8 = .int .i64 (l : Int) ∧ fr 9 = .pointer (some ⟨G.length + X.length, 0, none⟩) ∧ fr 10 = .int .u64 (m : Int) ∧ fr 11 = .int .i64 (s.1 : Int) ∧
      H = DH encL G B s.2.1 ++ (X ++ [.cells false [.int .u64 s.2.2]]) ∧ s.2.1.size = n ∧ PermIn a (a + l) d s.2.1) (a + l / 4 * 2 - 1, d, IntKind.u64.wrap (l : Int)) ⟨by simp only; omega, by simp only; omega, (by simp only [FB, Nat.reduceEqDiff]), (by simp only [FB, Nat.reduceEqDiff]), (by simp only [FB, Nat.reduceEqDiff]), (by simp only [FB, Nat.reduceEqDiff]), (by simp only [FB, Nat.reduceEqDiff]), (by simp only [FB, Nat.reduceEqDiff]), rfl, hd, permIn_refl _ _ _⟩ ?_
    rintro ⟨i, d1, s⟩ fr H ⟨h1, h2, g0, g1, g8, g9, g10, g11, rfl, hd1, hP⟩ hN
    simp only at h1 h2 g11 hd1 hP
    rw [Ret_code l127_1.eq_1]
    by_cases c1 : i ≤ a + (l / 4 * 2 + 1)
    · obtain ⟨s', _, hx⟩ := xor_ok (X := X) (d := d1) (s := s) (enc := encL) hl hB
      have hA := and_le (a := s') (b := ((m - 1 : Nat) : Int)) (by omega)
      generalize hr : IntKind.u64.wrap ((BitVec.ofInt IntKind.u64.bits s' &&& BitVec.ofInt IntKind.u64.bits ((m - 1 : Nat) : Int)).toNat : Int) = r at hA
      obtain ⟨r', rfl⟩ : ∃ r' : Nat, r = (r' : Int) := ⟨r.toNat, by omega⟩
      have hwr : IntKind.i64.wrap (r' : Int) = (r' : Int) := wrap_int rfl (by omega)
      have hwi : IntKind.i64.wrap ((i : Int) + 1) = ((i + 1 : Nat) : Int) := wrap_nat (by omega)
      have i1 : i < n := by omega
      by_cases c2 : l ≤ r'
      · have hw9 : IntKind.i64.wrap ((r' : Int) - (l : Int)) = ((r' - l : Nat) : Int) := wrap_int (by omega) (by omega)
        have hw10 : IntKind.i64.wrap ((a : Int) + ((r' - l : Nat) : Int)) = ((a + (r' - l) : Nat) : Int) := wrap_int (by omega) (by omega)
        have i2 : a + (r' - l) < n := by omega
        simp only [n127, r127, g0, g1, g8, g9, g10, g11, hw0, hq, hw1, hw3, hw6, hw8, c1, hx, hwm, hr, hwr, c2, hw9, hw10, ld, st, ix, List.append_nil, Array.size_setIfInBounds, encL_len, hd1, i1, i2, hwi, SB, Nat.reduceLT, callee, aOp, ne_eq, Nat.reduceEqDiff, aBin, aUn, if_true, if_false, reduceCtorEq, frame0, place, notTuple, Nat.reduceAdd, Nat.reduceLeDiff, resVal, dite_true, dite_false, Int.reduceEq, Int.reduceLT, Int.reduceLE]
        exact hN (i + 1, swp d1 i (a + (r' - l)), s') _ _ ⟨by simp only; omega, by simp only; omega, (by simp only [g0, FB, Nat.reduceEqDiff]), (by simp only [g1, FB, Nat.reduceEqDiff]), (by simp only [g8, FB, Nat.reduceEqDiff]), (by simp only [g9, FB, Nat.reduceEqDiff]), (by simp only [g10, FB, Nat.reduceEqDiff]), (by simp only [FB, Nat.reduceEqDiff]), by simp [swp], by simp [swp, hd1], permIn_trans _ _ _ _ _ hP (swp_permIn _ _ _ _ _ (by omega) (by omega) (by omega) (by omega) (by omega))⟩ (by simp only; omega)
      · have hw10 : IntKind.i64.wrap ((a : Int) + (r' : Int)) = ((a + r' : Nat) : Int) := wrap_int (by omega) (by omega)
        have i2 : a + r' < n := by omega
        simp only [n127, r127, g0, g1, g8, g9, g10, g11, hw0, hq, hw1, hw3, hw6, hw8, c1, hx, hwm, hr, hwr, c2, hw10, ld, st, ix, List.append_nil, Array.size_setIfInBounds, encL_len, hd1, i1, i2, hwi, SB, Nat.reduceLT, callee, aOp, ne_eq, Nat.reduceEqDiff, aBin, aUn, if_true, if_false, reduceCtorEq, frame0, place, notTuple, Nat.reduceAdd, Nat.reduceLeDiff, resVal, dite_true, dite_false, Int.reduceEq, Int.reduceLT, Int.reduceLE]
        exact hN (i + 1, swp d1 i (a + r'), s') _ _ ⟨by simp only; omega, by simp only; omega, (by simp only [g0, FB, Nat.reduceEqDiff]), (by simp only [g1, FB, Nat.reduceEqDiff]), (by simp only [g8, FB, Nat.reduceEqDiff]), (by simp only [g9, FB, Nat.reduceEqDiff]), (by simp only [g10, FB, Nat.reduceEqDiff]), (by simp only [FB, Nat.reduceEqDiff]), by simp [swp], by simp [swp, hd1], permIn_trans _ _ _ _ _ hP (swp_permIn _ _ _ _ _ (by omega) (by omega) (by omega) (by omega) (by omega))⟩ (by simp only; omega)
    · clear hN
      simp only [n127, r127, g0, g1, g8, g9, g10, g11, hw0, hq, hw1, hw3, hw6, hw8, c1, SB, Nat.reduceLT, callee, aOp, ne_eq, Nat.reduceEqDiff, aBin, aUn, if_true, if_false, reduceCtorEq, frame0, place, notTuple, Nat.reduceAdd, Nat.reduceLeDiff, resVal, dite_true, dite_false, Int.reduceEq, Int.reduceLT, Int.reduceLE]
      exact ⟨d1, s, hd1, hP, rfl⟩
  obtain ⟨k, v, H', hx, d', s, h1, h2, rfl, rfl⟩ := key
  exact ⟨d', s, h1, h2, fun Q => CallR.det hx⟩
def tlc : ACode → ACode
  | .seq _ b => b
  | x => x
def unb : ACode → ACode
  | .block _ b => b
  | x => x
def q1 : ACode := tlc (tlc (tlc (tlc (unb l122_1))))
def q2 : ACode := tlc (tlc q1)
def q3 : ACode := tlc q2
def hdc : ACode → ACode
  | .seq a _ => a
  | x => x
def p1 : ACode := hdc (unb l122_1)
def p2 : ACode := hdc (tlc (unb l122_1))
def p3 : ACode := hdc (tlc (tlc (unb l122_1)))
def p4 : ACode := hdc (tlc (tlc (tlc (unb l122_1))))
theorem body_eq : l122_1 = .block 1 (.seq p1 (.seq p2 (.seq p3 (.seq p4 q1)))) := rfl
def p5 : ACode := hdc q2
theorem q2_eq : q2 = .seq p5 q3 := rfl
def p6 : ACode := hdc q1
def p7 : ACode := hdc (tlc q1)
theorem q1_eq : q1 = .seq p6 (.seq p7 q2) := rfl
def Done (G : Heap) (B n : Nat) (c : Go.Net.Leg → Go.Net.Leg → Int) (a b : Nat) (d : Array Go.Net.Leg) (X : Heap) (v : Value) (H' : Heap) : Prop :=
  ∃ d' Y, d'.size = n ∧ PermIn a b d d' ∧ SortedIn (ltC c) a b d' ∧ v = .tuple #[] ∧ H' = DH encL G B d' ++ (X ++ Y)
theorem Done.perm [OB] {G : Heap} {B n : Nat} {c : Go.Net.Leg → Go.Net.Leg → Int} {a b : Nat} {d d1 : Array Go.Net.Leg} {X Y : Heap} {v : Value} {H' : Heap} (h : Done G B n c a b d1 (X ++ Y) v H') (hP : PermIn a b d d1) : Done G B n c a b d X v H' := by
  obtain ⟨d', Z, h1, h2, h3, h4, h5⟩ := h
  exact ⟨d', Y ++ Z, h1, permIn_trans _ _ _ _ _ hP h2, h3, h4, by rw [h5]; simp⟩
theorem pdq3 [OB] {G X : Heap} {B lim cap n : Nat} {p : Option Addr} {c : Go.Net.Leg → Go.Net.Leg → Int} {cl : FuncId} {cs : List Value} (hp : p = some ⟨B, 0, none⟩) (hB : B < G.length) (hl : lim ≤ B) (hn2 : n < 2 ^ 61) (hc : ∀ (mp : Bool) (lim : Nat) (x y : Go.Net.Leg) (H : Heap) (Q : Value → Heap → Prop), CallR E mp lim cl (.agg (encL x).toArray :: .agg (encL y).toArray :: cs) H Q = Q (.int .i64 (c x y)) H) (hS : SWO (ltC c)) {d : Array Go.Net.Leg} {a b v lm m : Nat} {wb wp : Bool} {fr : Nat → Value} {L : List AItem} (hT : ∀ (a b lm : Nat) (wb wp : Bool) (d : Array Go.Net.Leg) (X : Heap) (fr : Nat → Value), b - a < m → a ≤ b → b ≤ n → d.size = n → Below (ltC c) a b d → lm < 2 ^ 60 → fr 0 = .slice p n cap → fr 1 = .int .i64 (a : Int) → fr 2 = .int .i64 (b : Int) → fr 3 = .int .i64 (lm : Int) → fr 4 = .func (.func cl) #[] cs.toArray → fr 10 = .bool wb → fr 11 = .bool wp → Ret E a122 lim L fr (DH encL G B d ++ X) (Done G B n c a b d X)) (hC : ∀ (a b lm : Nat) (d : Array Go.Net.Leg) (X : Heap), b - a < m → a ≤ b → b ≤ n → d.size = n → Below (ltC c) a b d → lm < 2 ^ 60 → ∃ d' Y, d'.size = n ∧ PermIn a b d d' ∧ SortedIn (ltC c) a b d' ∧ ∀ Q, CallR E false lim 122 [.slice p n cap, .int .i64 (a : Int), .int .i64 (b : Int), .int .i64 (lm : Int), .func (.func cl) #[] cs.toArray] (DH encL G B d ++ X) Q = Q (.tuple #[]) (DH encL G B d' ++ (X ++ Y))) (hm : b - a ≤ m) (hd : d.size = n) (hb : b ≤ n) (hv : a ≤ v ∧ v < b) (hlm : lm < 2 ^ 60) (hBl : Below (ltC c) a b d) (g0 : fr 0 = .slice p n cap) (g1 : fr 1 = .int .i64 (a : Int)) (g2 : fr 2 = .int .i64 (b : Int)) (g3 : fr 3 = .int .i64 (lm : Int)) (g4 : fr 4 = .func (.func cl) #[] cs.toArray) (g10 : fr 10 = .bool wb) (g11 : fr 11 = .bool wp) (g12 : fr 12 = .int .i64 ((b - a : Nat) : Int)) (g13 : fr 13 = .int .i64 (v : Int)) :
    Ret E a122 lim (.code q3 :: .inBlock 1 :: L) fr (DH encL G B d ++ X) (Done G B n c a b d X) := by
  simp only [q3, q2, q1, tlc, unb, l122_1]
  have ld := fun (i : Nat) (X : Heap) (d : Array Go.Net.Leg) (hd : d.size = n) (hi : i < n) => DH_ld (X := X) (d := d) (i := i) hp hB encL_len (by omega); have st := fun (i : Nat) (X : Heap) (d : Array Go.Net.Leg) (hd : d.size = n) (hi : i < n) (y : Go.Net.Leg) => DH_st (X := X) (d := d) (i := i) (y := y) hp hB hl encL_len (by omega); have ix := fun (i : Nat) (hi : i < n) c (k : IntKind) (H : Heap) => DH_idx (e := 8) (i := i) (n := n) (c := c) (k := k) (H := H) hp hi
  have hw0 : 0 < a → IntKind.i64.wrap ((a : Int) - 1) = ((a - 1 : Nat) : Int) := fun h => wrap_pred h (by omega)
  have i1 : v < n := by omega
  by_cases c1 : 0 < a ∧ ¬ c d[a - 1]! d[v]! < 0
  · obtain ⟨c1, c2⟩ := c1
    have i2 : a - 1 < n := by omega
    have hpe := fun Q => peq_ok (X := X) (cap := cap) (a := a) (b := b) (v := v) (Q := Q) hp hB hl hn2 hc hd hb hv.1 hv.2
    generalize hx : partitionEqual (ltC c) d a b v = r at hpe
    obtain ⟨mid, d4⟩ := r
    obtain ⟨r1, r2, r3, r4, r5⟩ := round_eq hS (partitionEqual_holds (ltC c)) c1 hv.1 hv.2 (by omega) hBl (by simp [ltC, c2]) hx
    have hw0' := hw0 c1
    simp only [n122, r122, g0, g1, g2, g3, g4, g10, g11, g12, g13, c1, c2, hw0', ld, st, ix, List.append_nil, Array.size_setIfInBounds, encL_len, hd, i1, i2, hc, hpe, SB, Nat.reduceLT, callee, aOp, ne_eq, Nat.reduceEqDiff, aBin, aUn, if_true, if_false, reduceCtorEq, frame0, place, notTuple, Nat.reduceAdd, Nat.reduceLeDiff, resVal, dite_true, dite_false, Int.reduceEq, Int.reduceLT, Int.reduceLE]
    exact (hT mid b lm wb wp d4 X _ (by omega) r2 hb (by omega) r4 hlm (by simp only [g0, FB, Nat.reduceEqDiff]) (by simp only [FB, Nat.reduceEqDiff]) (by simp only [g2, FB, Nat.reduceEqDiff]) (by simp only [g3, FB, Nat.reduceEqDiff]) (by simp only [g4, FB, Nat.reduceEqDiff]) (by simp only [g10, FB, Nat.reduceEqDiff]) (by simp only [g11, FB, Nat.reduceEqDiff])).mono fun v H' ⟨d', Y, s1, s2, s3, s4, s5⟩ => ⟨d', Y, s1, (r5 d' s2 s3).1, (r5 d' s2 s3).2, s4, s5⟩
  · have hpt := fun Q => part_sort (X := X) (cap := cap) (a := a) (b := b) (v := v) (Q := Q) hp hB hl hn2 hc hd hb hv.1 hv.2
    generalize hx : Sort.partition (ltC c) d a b v = r at hpt
    obtain ⟨mid, ap, d4⟩ := r
    obtain ⟨r1, r2, r3, r4, r5, r6, r7⟩ := round_part hS (partition_holds (ltC c)) hv.1 hv.2 (by omega) hBl hx
    simp only at hpt
    have hw1 : IntKind.i64.wrap ((mid : Int) - (a : Int)) = ((mid - a : Nat) : Int) := wrap_int (by omega) (by omega)
    have hw2 : IntKind.i64.wrap ((b : Int) - (mid : Int)) = ((b - mid : Nat) : Int) := wrap_int (by omega) (by omega)
    have hw3 : IntKind.i64.wrap ((mid : Int) + 1) = ((mid + 1 : Nat) : Int) := wrap_nat (by omega)
    have hq : ((b - a : Nat) : Int).tdiv 8 = (((b - a) / 8 : Nat) : Int) := tdiv_nat (b := 8)
    have hw4 : IntKind.i64.wrap (((b - a) / 8 : Nat) : Int) = (((b - a) / 8 : Nat) : Int) := wrap_int rfl (by omega)
    have hor : (0 < a ∧ c d[a - 1]! d[v]! < 0) ∨ ¬ 0 < a := by
      by_cases q : 0 < a
      · exact .inl ⟨q, Classical.byContradiction fun q2 => c1 ⟨q, q2⟩⟩
      · exact .inr q
    by_cases c5 : mid - a < b - mid
    · obtain ⟨dL, Y, l1, l2, l3, l4⟩ := hC a mid lm d4 X (by omega) r1 (by omega) (by omega) r4 hlm
      obtain ⟨k1, k2⟩ := r6 dL l2 l3
      rcases hor with ⟨c2, c3⟩ | c2
      · have hw0' := hw0 c2
        have i2 : a - 1 < n := by omega
        simp only [n122, r122, g0, g1, g2, g3, g4, g10, g11, g12, g13, c2, c3, hw0', ld, st, ix, List.append_nil, Array.size_setIfInBounds, encL_len, hd, i1, i2, hc, hpt, hw1, hw2, hw3, hq, hw4, c5, l4, SB, Nat.reduceLT, callee, aOp, ne_eq, Nat.reduceEqDiff, aBin, aUn, if_true, if_false, reduceCtorEq, frame0, place, notTuple, Nat.reduceAdd, Nat.reduceLeDiff, resVal, dite_true, dite_false, Int.reduceEq, Int.reduceLT, Int.reduceLE]
        exact (hT (mid + 1) b lm (decide ((b - a) / 8 ≤ mid - a)) ap dL (X ++ Y) _ (by omega) (by omega) hb l1 k1 hlm (by simp only [g0, FB, Nat.reduceEqDiff]) (by simp only [FB, Nat.reduceEqDiff]) (by simp only [g2, FB, Nat.reduceEqDiff]) (by simp only [g3, FB, Nat.reduceEqDiff]) (by simp only [g4, FB, Nat.reduceEqDiff]) (by simp only [FB, Nat.reduceEqDiff]) (by simp only [FB, Nat.reduceEqDiff])).mono fun v H' ⟨d', Z, s1, s2, s3, s4, s5⟩ => ⟨d', Y ++ Z, s1, (k2 d' s2 s3).1, (k2 d' s2 s3).2, s4, by rw [s5]; simp⟩
      · simp only [n122, r122, g0, g1, g2, g3, g4, g10, g11, g12, g13, c2, ld, st, ix, List.append_nil, Array.size_setIfInBounds, encL_len, hd, i1, hc, hpt, hw1, hw2, hw3, hq, hw4, c5, l4, SB, Nat.reduceLT, callee, aOp, ne_eq, Nat.reduceEqDiff, aBin, aUn, if_true, if_false, reduceCtorEq, frame0, place, notTuple, Nat.reduceAdd, Nat.reduceLeDiff, resVal, dite_true, dite_false, Int.reduceEq, Int.reduceLT, Int.reduceLE]
        exact (hT (mid + 1) b lm (decide ((b - a) / 8 ≤ mid - a)) ap dL (X ++ Y) _ (by omega) (by omega) hb l1 k1 hlm (by simp only [g0, FB, Nat.reduceEqDiff]) (by simp only [FB, Nat.reduceEqDiff]) (by simp only [g2, FB, Nat.reduceEqDiff]) (by simp only [g3, FB, Nat.reduceEqDiff]) (by simp only [g4, FB, Nat.reduceEqDiff]) (by simp only [FB, Nat.reduceEqDiff]) (by simp only [FB, Nat.reduceEqDiff])).mono fun v H' ⟨d', Z, s1, s2, s3, s4, s5⟩ => ⟨d', Y ++ Z, s1, (k2 d' s2 s3).1, (k2 d' s2 s3).2, s4, by rw [s5]; simp⟩
    · obtain ⟨dL, Y, l1, l2, l3, l4⟩ := hC (mid + 1) b lm d4 X (by omega) (by omega) hb (by omega) r5 hlm
      obtain ⟨k1, k2⟩ := r7 dL l2 l3
      rcases hor with ⟨c2, c3⟩ | c2
      · have hw0' := hw0 c2
        have i2 : a - 1 < n := by omega
        simp only [n122, r122, g0, g1, g2, g3, g4, g10, g11, g12, g13, c2, c3, hw0', ld, st, ix, List.append_nil, Array.size_setIfInBounds, encL_len, hd, i1, i2, hc, hpt, hw1, hw2, hw3, hq, hw4, c5, l4, SB, Nat.reduceLT, callee, aOp, ne_eq, Nat.reduceEqDiff, aBin, aUn, if_true, if_false, reduceCtorEq, frame0, place, notTuple, Nat.reduceAdd, Nat.reduceLeDiff, resVal, dite_true, dite_false, Int.reduceEq, Int.reduceLT, Int.reduceLE]
        exact (hT a mid lm (decide ((b - a) / 8 ≤ b - mid)) ap dL (X ++ Y) _ (by omega) r1 (by omega) l1 k1 hlm (by simp only [g0, FB, Nat.reduceEqDiff]) (by simp only [g1, FB, Nat.reduceEqDiff]) (by simp only [FB, Nat.reduceEqDiff]) (by simp only [g3, FB, Nat.reduceEqDiff]) (by simp only [g4, FB, Nat.reduceEqDiff]) (by simp only [FB, Nat.reduceEqDiff]) (by simp only [FB, Nat.reduceEqDiff])).mono fun v H' ⟨d', Z, s1, s2, s3, s4, s5⟩ => ⟨d', Y ++ Z, s1, (k2 d' s2 s3).1, (k2 d' s2 s3).2, s4, by rw [s5]; simp⟩
      · simp only [n122, r122, g0, g1, g2, g3, g4, g10, g11, g12, g13, c2, ld, st, ix, List.append_nil, Array.size_setIfInBounds, encL_len, hd, i1, hc, hpt, hw1, hw2, hw3, hq, hw4, c5, l4, SB, Nat.reduceLT, callee, aOp, ne_eq, Nat.reduceEqDiff, aBin, aUn, if_true, if_false, reduceCtorEq, frame0, place, notTuple, Nat.reduceAdd, Nat.reduceLeDiff, resVal, dite_true, dite_false, Int.reduceEq, Int.reduceLT, Int.reduceLE]
        exact (hT a mid lm (decide ((b - a) / 8 ≤ b - mid)) ap dL (X ++ Y) _ (by omega) r1 (by omega) l1 k1 hlm (by simp only [g0, FB, Nat.reduceEqDiff]) (by simp only [g1, FB, Nat.reduceEqDiff]) (by simp only [FB, Nat.reduceEqDiff]) (by simp only [g3, FB, Nat.reduceEqDiff]) (by simp only [g4, FB, Nat.reduceEqDiff]) (by simp only [FB, Nat.reduceEqDiff]) (by simp only [FB, Nat.reduceEqDiff])).mono fun v H' ⟨d', Z, s1, s2, s3, s4, s5⟩ => ⟨d', Y ++ Z, s1, (k2 d' s2 s3).1, (k2 d' s2 s3).2, s4, by rw [s5]; simp⟩
theorem pdq2 [OB] {G X : Heap} {B lim cap n : Nat} {p : Option Addr} {c : Go.Net.Leg → Go.Net.Leg → Int} {cl : FuncId} {cs : List Value} (hp : p = some ⟨B, 0, none⟩) (hB : B < G.length) (hl : lim ≤ B) (hn2 : n < 2 ^ 61) (hc : ∀ (mp : Bool) (lim : Nat) (x y : Go.Net.Leg) (H : Heap) (Q : Value → Heap → Prop), CallR E mp lim cl (.agg (encL x).toArray :: .agg (encL y).toArray :: cs) H Q = Q (.int .i64 (c x y)) H) (hS : SWO (ltC c)) {d : Array Go.Net.Leg} {a b v h lm m : Nat} {wb wp : Bool} {fr : Nat → Value} {L : List AItem} (hT : ∀ (a b lm : Nat) (wb wp : Bool) (d : Array Go.Net.Leg) (X : Heap) (fr : Nat → Value), b - a < m → a ≤ b → b ≤ n → d.size = n → Below (ltC c) a b d → lm < 2 ^ 60 → fr 0 = .slice p n cap → fr 1 = .int .i64 (a : Int) → fr 2 = .int .i64 (b : Int) → fr 3 = .int .i64 (lm : Int) → fr 4 = .func (.func cl) #[] cs.toArray → fr 10 = .bool wb → fr 11 = .bool wp → Ret E a122 lim L fr (DH encL G B d ++ X) (Done G B n c a b d X)) (hC : ∀ (a b lm : Nat) (d : Array Go.Net.Leg) (X : Heap), b - a < m → a ≤ b → b ≤ n → d.size = n → Below (ltC c) a b d → lm < 2 ^ 60 → ∃ d' Y, d'.size = n ∧ PermIn a b d d' ∧ SortedIn (ltC c) a b d' ∧ ∀ Q, CallR E false lim 122 [.slice p n cap, .int .i64 (a : Int), .int .i64 (b : Int), .int .i64 (lm : Int), .func (.func cl) #[] cs.toArray] (DH encL G B d ++ X) Q = Q (.tuple #[]) (DH encL G B d' ++ (X ++ Y))) (hm : b - a ≤ m) (hd : d.size = n) (hb : b ≤ n) (hv : a ≤ v ∧ v < b) (hlm : lm < 2 ^ 60) (hh : h ≤ 2) (hBl : Below (ltC c) a b d) (g0 : fr 0 = .slice p n cap) (g1 : fr 1 = .int .i64 (a : Int)) (g2 : fr 2 = .int .i64 (b : Int)) (g3 : fr 3 = .int .i64 (lm : Int)) (g4 : fr 4 = .func (.func cl) #[] cs.toArray) (g10 : fr 10 = .bool wb) (g11 : fr 11 = .bool wp) (g12 : fr 12 = .int .i64 ((b - a : Nat) : Int)) (g13 : fr 13 = .int .i64 (v : Int)) (g14 : fr 14 = .int .i64 (h : Int)) :
    Ret E a122 lim (.code q2 :: .inBlock 1 :: L) fr (DH encL G B d ++ X) (Done G B n c a b d X) := by
  have h3 := fun d fr hd hBl => pdq3 (X := X) (d := d) (fr := fr) (a := a) (b := b) (v := v) (lm := lm) (wb := wb) (wp := wp) hp hB hl hn2 hc hS hT hC hm hd hb hv hlm hBl
  by_cases c1 : wb = true ∧ wp = true ∧ h = 1
  · obtain ⟨rfl, rfl, rfl⟩ := c1
    have hpi := fun Q => pis_ok (X := X) (cap := cap) (a := a) (b := b) (Q := Q) hp hB hl hn2 hc hd hb (by omega)
    have hps := partialInsertionSort_holds hS d a b (by omega) (by omega) hBl
    generalize partialInsertionSort (ltC c) d a b = r at hpi hps
    obtain ⟨d3, fl⟩ := r
    obtain ⟨P3, S3⟩ := hps
    simp only at hpi P3 S3
    have g14' : fr 14 = .int .i64 1 := g14
    have hd3 : d3.size = n := by rw [P3.1]; exact hd
    cases fl with
    | true =>
      rw [Ret_code q2_eq]; simp only [p5, hdc, tlc, unb, q1, q2, l122_1]
      simp only [n122, r122, g0, g1, g2, g3, g4, g10, g11, g12, g13, g14', hpi, SB, Nat.reduceLT, callee, aOp, ne_eq, Nat.reduceEqDiff, aBin, aUn, if_true, if_false, reduceCtorEq, frame0, place, notTuple, Nat.reduceAdd, Nat.reduceLeDiff, resVal, dite_true, dite_false, Int.reduceEq, Int.reduceLT, Int.reduceLE]
      exact ⟨d3, [], hd3, P3, S3 rfl, rfl, by simp⟩
    | false =>
      have hB3 := hBl.perm (by omega) P3
      have := h3 d3
      rw [Ret_code q2_eq]; simp only [p5, hdc, tlc, unb, q1, q2, l122_1]
      simp only [n122, r122, g0, g1, g2, g3, g4, g10, g11, g12, g13, g14', hpi, SB, Nat.reduceLT, callee, aOp, ne_eq, Nat.reduceEqDiff, aBin, aUn, if_true, if_false, reduceCtorEq, frame0, place, notTuple, Nat.reduceAdd, Nat.reduceLeDiff, resVal, dite_true, dite_false, Int.reduceEq, Int.reduceLT, Int.reduceLE]
      refine Ret.mono (h3 d3 _ hd3 hB3 (by simp only [g0, FB, Nat.reduceEqDiff]) (by simp only [g1, FB, Nat.reduceEqDiff]) (by simp only [g2, FB, Nat.reduceEqDiff]) (by simp only [g3, FB, Nat.reduceEqDiff]) (by simp only [g4, FB, Nat.reduceEqDiff]) (by simp only [g10, FB, Nat.reduceEqDiff]) (by simp only [g11, FB, Nat.reduceEqDiff]) (by simp only [g12, FB, Nat.reduceEqDiff]) (by simp only [g13, FB, Nat.reduceEqDiff])) fun v' H' hq => ?_
      exact Done.perm (Y := []) (by rw [List.append_nil]; exact hq) P3
  · have h3' := h3 d
    rw [Ret_code q2_eq]; simp only [p5, hdc, tlc, unb, q1, q2, l122_1]
    cases wb with
    | false =>
      simp only [n122, r122, g0, g1, g2, g3, g4, g10, g11, g12, g13, g14, SB, Nat.reduceLT, callee, aOp, ne_eq, Nat.reduceEqDiff, aBin, aUn, if_true, if_false, reduceCtorEq, frame0, place, notTuple, Nat.reduceAdd, Nat.reduceLeDiff, resVal, dite_true, dite_false, Int.reduceEq, Int.reduceLT, Int.reduceLE]
      exact h3' _ hd hBl (by simp only [g0, FB, Nat.reduceEqDiff]) (by simp only [g1, FB, Nat.reduceEqDiff]) (by simp only [g2, FB, Nat.reduceEqDiff]) (by simp only [g3, FB, Nat.reduceEqDiff]) (by simp only [g4, FB, Nat.reduceEqDiff]) (by simp only [g10, FB, Nat.reduceEqDiff]) (by simp only [g11, FB, Nat.reduceEqDiff]) (by simp only [g12, FB, Nat.reduceEqDiff]) (by simp only [g13, FB, Nat.reduceEqDiff])
    | true =>
      cases wp with
      | false =>
        simp only [n122, r122, g0, g1, g2, g3, g4, g10, g11, g12, g13, g14, SB, Nat.reduceLT, callee, aOp, ne_eq, Nat.reduceEqDiff, aBin, aUn, if_true, if_false, reduceCtorEq, frame0, place, notTuple, Nat.reduceAdd, Nat.reduceLeDiff, resVal, dite_true, dite_false, Int.reduceEq, Int.reduceLT, Int.reduceLE]
        exact h3' _ hd hBl (by simp only [g0, FB, Nat.reduceEqDiff]) (by simp only [g1, FB, Nat.reduceEqDiff]) (by simp only [g2, FB, Nat.reduceEqDiff]) (by simp only [g3, FB, Nat.reduceEqDiff]) (by simp only [g4, FB, Nat.reduceEqDiff]) (by simp only [g10, FB, Nat.reduceEqDiff]) (by simp only [g11, FB, Nat.reduceEqDiff]) (by simp only [g12, FB, Nat.reduceEqDiff]) (by simp only [g13, FB, Nat.reduceEqDiff])
      | true =>
        have c2 : ¬ (h : Int) = 1 := fun q => c1 ⟨rfl, rfl, by omega⟩
        simp only [n122, r122, g0, g1, g2, g3, g4, g10, g11, g12, g13, g14, c2, SB, Nat.reduceLT, callee, aOp, ne_eq, Nat.reduceEqDiff, aBin, aUn, if_true, if_false, reduceCtorEq, frame0, place, notTuple, Nat.reduceAdd, Nat.reduceLeDiff, resVal, dite_true, dite_false, Int.reduceEq, Int.reduceLT, Int.reduceLE]
        exact h3' _ hd hBl (by simp only [g0, FB, Nat.reduceEqDiff]) (by simp only [g1, FB, Nat.reduceEqDiff]) (by simp only [g2, FB, Nat.reduceEqDiff]) (by simp only [g3, FB, Nat.reduceEqDiff]) (by simp only [g4, FB, Nat.reduceEqDiff]) (by simp only [g10, FB, Nat.reduceEqDiff]) (by simp only [g11, FB, Nat.reduceEqDiff]) (by simp only [g12, FB, Nat.reduceEqDiff]) (by simp only [g13, FB, Nat.reduceEqDiff])
theorem pdq1 [OB] {G X : Heap} {B lim cap n : Nat} {p : Option Addr} {c : Go.Net.Leg → Go.Net.Leg → Int} {cl : FuncId} {cs : List Value} (hp : p = some ⟨B, 0, none⟩) (hB : B < G.length) (hl : lim ≤ B) (hn2 : n < 2 ^ 61) (hc : ∀ (mp : Bool) (lim : Nat) (x y : Go.Net.Leg) (H : Heap) (Q : Value → Heap → Prop), CallR E mp lim cl (.agg (encL x).toArray :: .agg (encL y).toArray :: cs) H Q = Q (.int .i64 (c x y)) H) (hS : SWO (ltC c)) {d : Array Go.Net.Leg} {a b lm m : Nat} {wb wp : Bool} {fr : Nat → Value} {L : List AItem} (hT : ∀ (a b lm : Nat) (wb wp : Bool) (d : Array Go.Net.Leg) (X : Heap) (fr : Nat → Value), b - a < m → a ≤ b → b ≤ n → d.size = n → Below (ltC c) a b d → lm < 2 ^ 60 → fr 0 = .slice p n cap → fr 1 = .int .i64 (a : Int) → fr 2 = .int .i64 (b : Int) → fr 3 = .int .i64 (lm : Int) → fr 4 = .func (.func cl) #[] cs.toArray → fr 10 = .bool wb → fr 11 = .bool wp → Ret E a122 lim L fr (DH encL G B d ++ X) (Done G B n c a b d X)) (hC : ∀ (a b lm : Nat) (d : Array Go.Net.Leg) (X : Heap), b - a < m → a ≤ b → b ≤ n → d.size = n → Below (ltC c) a b d → lm < 2 ^ 60 → ∃ d' Y, d'.size = n ∧ PermIn a b d d' ∧ SortedIn (ltC c) a b d' ∧ ∀ Q, CallR E false lim 122 [.slice p n cap, .int .i64 (a : Int), .int .i64 (b : Int), .int .i64 (lm : Int), .func (.func cl) #[] cs.toArray] (DH encL G B d ++ X) Q = Q (.tuple #[]) (DH encL G B d' ++ (X ++ Y))) (hm : b - a ≤ m) (hd : d.size = n) (hb : b ≤ n) (hab : a + 12 < b) (hlm : lm < 2 ^ 60) (hBl : Below (ltC c) a b d) (g0 : fr 0 = .slice p n cap) (g1 : fr 1 = .int .i64 (a : Int)) (g2 : fr 2 = .int .i64 (b : Int)) (g3 : fr 3 = .int .i64 (lm : Int)) (g4 : fr 4 = .func (.func cl) #[] cs.toArray) (g10 : fr 10 = .bool wb) (g11 : fr 11 = .bool wp) (g12 : fr 12 = .int .i64 ((b - a : Nat) : Int)) :
    Ret E a122 lim (.code q1 :: .inBlock 1 :: L) fr (DH encL G B d ++ X) (Done G B n c a b d X) := by
  obtain ⟨v, h, s, v1, v2, hh, hcho⟩ := cho_ok (X := X) (cap := cap) (lim := lim) hp hB hl hn2 hc hd hb hab
  by_cases c1 : h = 2
  · subst c1
    have hr := fun Q => rev_ok (X := X ++ [.cells false [.int .i64 (s : Int)]]) (cap := cap) (a := a) (b := b) (Q := Q) hp hB hl hn2 hc hd hb (by omega)
    have P2 := reverseRange_holds d a b (by omega) (by omega)
    generalize reverseRange d a b = d2 at hr P2
    have hd2 : d2.size = n := by rw [P2.1]; exact hd
    have hB2 := hBl.perm (by omega) P2
    have h2 := fun fr => pdq2 (X := X ++ [.cells false [.int .i64 (s : Int)]]) (d := d2) (fr := fr) (a := a) (b := b) (v := b - 1 - (v - a)) (h := 1) (lm := lm) (wb := wb) (wp := wp) hp hB hl hn2 hc hS hT hC hm hd2 hb (by omega) hlm (by omega) hB2
    have hw1 : IntKind.i64.wrap ((b : Int) - 1) = ((b - 1 : Nat) : Int) := wrap_int (by omega) (by omega)
    have hw2 : IntKind.i64.wrap ((v : Int) - (a : Int)) = ((v - a : Nat) : Int) := wrap_int (by omega) (by omega)
    have hw3 : IntKind.i64.wrap (((b - 1 : Nat) : Int) - ((v - a : Nat) : Int)) = ((b - 1 - (v - a) : Nat) : Int) := wrap_int (by omega) (by omega)
    have hcho' : ∀ Q, CallR E false lim 128 [.slice p n cap, .int .i64 (a : Int), .int .i64 (b : Int), .func (.func cl) #[] cs.toArray] (DH encL G B d ++ X) Q = Q (.tuple #[.int .i64 (v : Int), .int .i64 2]) (DH encL G B d ++ (X ++ [.cells false [.int .i64 (s : Int)]])) := hcho
    rw [Ret_code q1_eq]; simp only [p6, p7, hdc, tlc, unb, q1, l122_1]
    simp only [n122, r122, g0, g1, g2, g3, g4, g10, g11, g12, hcho', hr, hw1, hw2, hw3, SB, Nat.reduceLT, callee, aOp, ne_eq, Nat.reduceEqDiff, aBin, aUn, if_true, if_false, reduceCtorEq, frame0, place, notTuple, Nat.reduceAdd, Nat.reduceLeDiff, resVal, dite_true, dite_false, Int.reduceEq, Int.reduceLT, Int.reduceLE]
    refine Ret.mono (h2 _ (by simp only [g0, FB, Nat.reduceEqDiff]) (by simp only [g1, FB, Nat.reduceEqDiff]) (by simp only [g2, FB, Nat.reduceEqDiff]) (by simp only [g3, FB, Nat.reduceEqDiff]) (by simp only [g4, FB, Nat.reduceEqDiff]) (by simp only [g10, FB, Nat.reduceEqDiff]) (by simp only [g11, FB, Nat.reduceEqDiff]) (by simp only [g12, FB, Nat.reduceEqDiff]) (by simp only [FB, Nat.reduceEqDiff]) (by simp only [upd_same, upd_ne, ne_eq, Nat.reduceEqDiff, not_false_eq_true]; rfl)) fun v' H' hq => ?_
    exact Done.perm hq P2
  · have c2 : ¬ (h : Int) = 2 := by omega
    have h2 := fun fr => pdq2 (X := X ++ [.cells false [.int .i64 (s : Int)]]) (d := d) (fr := fr) (a := a) (b := b) (v := v) (h := h) (lm := lm) (wb := wb) (wp := wp) hp hB hl hn2 hc hS hT hC hm hd hb (by omega) hlm (by omega) hBl
    rw [Ret_code q1_eq]; simp only [p6, p7, hdc, tlc, unb, q1, l122_1]
    simp only [n122, r122, g0, g1, g2, g3, g4, g10, g11, g12, hcho, c2, SB, Nat.reduceLT, callee, aOp, ne_eq, Nat.reduceEqDiff, aBin, aUn, if_true, if_false, reduceCtorEq, frame0, place, notTuple, Nat.reduceAdd, Nat.reduceLeDiff, resVal, dite_true, dite_false, Int.reduceEq, Int.reduceLT, Int.reduceLE]
    refine Ret.mono (h2 _ (by simp only [g0, FB, Nat.reduceEqDiff]) (by simp only [g1, FB, Nat.reduceEqDiff]) (by simp only [g2, FB, Nat.reduceEqDiff]) (by simp only [g3, FB, Nat.reduceEqDiff]) (by simp only [g4, FB, Nat.reduceEqDiff]) (by simp only [g10, FB, Nat.reduceEqDiff]) (by simp only [g11, FB, Nat.reduceEqDiff]) (by simp only [g12, FB, Nat.reduceEqDiff]) (by simp only [FB, Nat.reduceEqDiff]) (by simp only [FB, Nat.reduceEqDiff])) fun v' H' hq => ?_
    exact Done.perm hq (permIn_refl _ _ _)
theorem pdq_loop [OB] {G X : Heap} {B lim cap n : Nat} {p : Option Addr} {c : Go.Net.Leg → Go.Net.Leg → Int} {cl : FuncId} {cs : List Value} (hp : p = some ⟨B, 0, none⟩) (hB : B < G.length) (hl : lim ≤ B) (hn2 : n < 2 ^ 61) (hc : ∀ (mp : Bool) (lim : Nat) (x y : Go.Net.Leg) (H : Heap) (Q : Value → Heap → Prop), CallR E mp lim cl (.agg (encL x).toArray :: .agg (encL y).toArray :: cs) H Q = Q (.int .i64 (c x y)) H) (hS : SWO (ltC c)) (hn3 : n < 65536) : ∀ (m a b lm : Nat) (wb wp : Bool) (d : Array Go.Net.Leg) (X : Heap) (fr : Nat → Value), b - a < m → a ≤ b → b ≤ n → d.size = n → Below (ltC c) a b d → lm < 2 ^ 60 → fr 0 = .slice p n cap → fr 1 = .int .i64 (a : Int) → fr 2 = .int .i64 (b : Int) → fr 3 = .int .i64 (lm : Int) → fr 4 = .func (.func cl) #[] cs.toArray → fr 10 = .bool wb → fr 11 = .bool wp →
    Ret E a122 lim (.inLoop l122_1 :: .inBlock 0 :: []) fr (DH encL G B d ++ X) (Done G B n c a b d X) := by
  intro m
  induction m with
  | zero => intro a b lm wb wp d X fr h; omega
  | succ m ih =>
    intro a b lm wb wp d X fr hlt hab hb hd hBl hlm g0 g1 g2 g3 g4 g10 g11
    have hC : ∀ (a b lm : Nat) (d : Array Go.Net.Leg) (X : Heap), b - a < m → a ≤ b → b ≤ n → d.size = n → Below (ltC c) a b d → lm < 2 ^ 60 → ∃ d' Y, d'.size = n ∧ PermIn a b d d' ∧ SortedIn (ltC c) a b d' ∧ ∀ Q, CallR E false lim 122 [.slice p n cap, .int .i64 (a : Int), .int .i64 (b : Int), .int .i64 (lm : Int), .func (.func cl) #[] cs.toArray] (DH encL G B d ++ X) Q = Q (.tuple #[]) (DH encL G B d' ++ (X ++ Y)) := by
      intro a b lm d X k1 k2 k3 k4 k5 k6
      have key : CallR E false lim 122 [.slice p n cap, .int .i64 (a : Int), .int .i64 (b : Int), .int .i64 (lm : Int), .func (.func cl) #[] cs.toArray] (DH encL G B d ++ X) (Done G B n c a b d X) := by
        rw [CallR_run (E := E) (g := 122) (af := a122) (by simp [E, orc]) e122 rfl rfl]
        rw [b122, c122]
        simp only [n122, r122, SB, Nat.reduceLT, callee, aOp, ne_eq, Nat.reduceEqDiff, aBin, aUn, if_true, if_false, reduceCtorEq, frame0, place, notTuple, Nat.reduceAdd, Nat.reduceLeDiff, resVal, dite_true, dite_false, Int.reduceEq, Int.reduceLT, Int.reduceLE]
        rw [Ret_loop, ← Ret_inLoop]
        exact ih a b lm true true d X _ k1 k2 k3 k4 k5 k6 (by simp only [FB, Nat.reduceEqDiff]) (by simp only [FB, Nat.reduceEqDiff]) (by simp only [FB, Nat.reduceEqDiff]) (by simp only [FB, Nat.reduceEqDiff]) (by simp only [FB, Nat.reduceEqDiff]) (by simp only [FB, Nat.reduceEqDiff]) (by simp only [FB, Nat.reduceEqDiff])
      obtain ⟨k, v, H', hx, d', Y, h1, h2, h3, rfl, rfl⟩ := key
      exact ⟨d', Y, h1, h2, h3, fun Q => CallR.det hx⟩
    have h1 := fun d X fr lm hd hBl hab hlm => pdq1 (X := X) (d := d) (fr := fr) (a := a) (b := b) (lm := lm) (wb := wb) (wp := wp) (m := m) (L := .inLoop l122_1 :: .inBlock 0 :: []) hp hB hl hn2 hc hS ih hC (by omega) hd hb hab hlm hBl
    rw [Ret_inLoop]
    generalize (AItem.inLoop l122_1 :: [AItem.inBlock 0]) = L at h1
    rw [Ret_code body_eq]; simp only [p1, p2, p3, p4, hdc, tlc, unb, l122_1]
    have hw1 : IntKind.i64.wrap ((b : Int) - (a : Int)) = ((b - a : Nat) : Int) := wrap_int (by omega) (by omega)
    by_cases c1 : b - a ≤ 12
    · have c1' : ((b - a : Nat) : Int) ≤ 12 := by omega
      have hi := fun Q => ins_ok (X := X) (cap := cap) (a := a) (b := b) (Q := Q) hp hB hl hn2 hc hd hb hab
      obtain ⟨P, S⟩ := insertionSort_holds hS d a b hab (by omega)
      simp only [n122, r122, g0, g1, g2, g3, g4, g10, g11, hw1, c1', hi, SB, Nat.reduceLT, callee, aOp, ne_eq, Nat.reduceEqDiff, aBin, aUn, if_true, if_false, reduceCtorEq, frame0, place, notTuple, Nat.reduceAdd, Nat.reduceLeDiff, resVal, dite_true, dite_false, Int.reduceEq, Int.reduceLT, Int.reduceLE]
      exact ⟨_, [], by rw [P.1]; exact hd, P, S, rfl, by simp⟩
    have c1' : ¬ ((b - a : Nat) : Int) ≤ 12 := by omega
    by_cases c2 : lm = 0
    · have c2' : (lm : Int) = 0 := by omega
      have hi := fun Q => heap_ok (X := X) (cap := cap) (a := a) (b := b) (Q := Q) hp hB hl hn2 hc hd hb hab
      obtain ⟨P, S⟩ := heapSort_holds hS d a b hab (by omega)
      simp only [n122, r122, g0, g1, g2, g3, g4, g10, g11, hw1, c1', c2', hi, SB, Nat.reduceLT, callee, aOp, ne_eq, Nat.reduceEqDiff, aBin, aUn, if_true, if_false, reduceCtorEq, frame0, place, notTuple, Nat.reduceAdd, Nat.reduceLeDiff, resVal, dite_true, dite_false, Int.reduceEq, Int.reduceLT, Int.reduceLE]
      exact ⟨_, [], by rw [P.1]; exact hd, P, S, rfl, by simp⟩
    have c2' : ¬ (lm : Int) = 0 := by omega
    cases wb with
    | true =>
      simp only [n122, r122, g0, g1, g2, g3, g4, g10, g11, hw1, c1', c2', SB, Nat.reduceLT, callee, aOp, ne_eq, Nat.reduceEqDiff, aBin, aUn, if_true, if_false, reduceCtorEq, frame0, place, notTuple, Nat.reduceAdd, Nat.reduceLeDiff, resVal, dite_true, dite_false, Int.reduceEq, Int.reduceLT, Int.reduceLE]
      exact h1 d X _ lm hd hBl (by omega) hlm (by simp only [g0, FB, Nat.reduceEqDiff]) (by simp only [g1, FB, Nat.reduceEqDiff]) (by simp only [g2, FB, Nat.reduceEqDiff]) (by simp only [g3, FB, Nat.reduceEqDiff]) (by simp only [g4, FB, Nat.reduceEqDiff]) (by simp only [g10, FB, Nat.reduceEqDiff]) (by simp only [g11, FB, Nat.reduceEqDiff]) (by simp only [FB, Nat.reduceEqDiff])
    | false =>
      obtain ⟨d1, s, hd1, P1, hbr⟩ := brk_ok (X := X) (cap := cap) (lim := lim) hp hB hl hn2 hc hd hb (show a + 12 < b by omega) hn3
      have hw2 : IntKind.i64.wrap ((lm : Int) - 1) = ((lm - 1 : Nat) : Int) := wrap_int (by omega) (by omega)
      simp only [n122, r122, g0, g1, g2, g3, g4, g10, g11, hw1, c1', c2', hbr, hw2, SB, Nat.reduceLT, callee, aOp, ne_eq, Nat.reduceEqDiff, aBin, aUn, if_true, if_false, reduceCtorEq, frame0, place, notTuple, Nat.reduceAdd, Nat.reduceLeDiff, resVal, dite_true, dite_false, Int.reduceEq, Int.reduceLT, Int.reduceLE]
      refine Ret.mono (h1 d1 (X ++ [.cells false [.int .u64 s]]) _ (lm - 1) hd1 (hBl.perm (by omega) P1) (by omega) (by omega) (by simp only [g0, FB, Nat.reduceEqDiff]) (by simp only [g1, FB, Nat.reduceEqDiff]) (by simp only [g2, FB, Nat.reduceEqDiff]) (by simp only [FB, Nat.reduceEqDiff]) (by simp only [g4, FB, Nat.reduceEqDiff]) (by simp only [g10, FB, Nat.reduceEqDiff]) (by simp only [g11, FB, Nat.reduceEqDiff]) (by simp only [FB, Nat.reduceEqDiff])) fun v' H' hq => ?_
      exact Done.perm hq P1
theorem len0_ok [OB] {mp : Bool} {lim : Nat} {H : Heap} {Q : Value → Heap → Prop} : CallR E mp lim 123 [.int .u64 0] H Q = Q (.int .i64 0) H := by
  have key : ∀ (mp : Bool) (lim : Nat) (H : Heap) (Q : Value → Heap → Prop), CallR E mp lim 134 [.int .u64 0] H Q = Q (.int .i64 0) H := by
    intro mp lim H Q
    refine pc (by decide) e134 rfl rfl ?_
    rw [b134, c134]
    have w2 : IntKind.u8.wrap 0 = 0 := by decide
    have w3 : IntKind.i64.wrap 0 = 0 := by decide
    simp only [n134, r134, w2, w3, Int.toNat_zero, List.getElem?_cons_zero, Option.map_some, UInt8.toNat_zero, UInt8.toNat_ofNat, Nat.reduceMod, Nat.reducePow, Int.cast_ofNat_Int, Int.add_zero, SB, Nat.reduceLT, callee, aOp, ne_eq, Nat.reduceEqDiff, aBin, aUn, if_true, if_false, reduceCtorEq, frame0, place, notTuple, Nat.reduceAdd, Nat.reduceLeDiff, resVal, dite_true, dite_false, Int.reduceEq, Int.reduceLT, Int.reduceLE]
  refine pc (by decide) e123 rfl rfl ?_
  rw [b123, c123]
  simp only [n123, r123, key, SB, Nat.reduceLT, callee, aOp, ne_eq, Nat.reduceEqDiff, aBin, aUn, if_true, if_false, reduceCtorEq, frame0, place, notTuple, Nat.reduceAdd, Nat.reduceLeDiff, resVal, dite_true, dite_false, Int.reduceEq, Int.reduceLT, Int.reduceLE]
theorem pdq_call [OB] {G X : Heap} {B lim cap n : Nat} {p : Option Addr} {c : Go.Net.Leg → Go.Net.Leg → Int} {cl : FuncId} {cs : List Value} (hp : p = some ⟨B, 0, none⟩) (hB : B < G.length) (hl : lim ≤ B) (hn2 : n < 2 ^ 61) (hc : ∀ (mp : Bool) (lim : Nat) (x y : Go.Net.Leg) (H : Heap) (Q : Value → Heap → Prop), CallR E mp lim cl (.agg (encL x).toArray :: .agg (encL y).toArray :: cs) H Q = Q (.int .i64 (c x y)) H) (hS : SWO (ltC c)) (hn3 : n < 65536) {d : Array Go.Net.Leg} {lm : Nat} (hd : d.size = n) (hlm : lm < 2 ^ 60) :
    ∃ d' Y, d'.size = n ∧ PermIn 0 n d d' ∧ SortedIn (ltC c) 0 n d' ∧ ∀ Q, CallR E false lim 122 [.slice p n cap, .int .i64 0, .int .i64 (n : Int), .int .i64 (lm : Int), .func (.func cl) #[] cs.toArray] (DH encL G B d ++ X) Q = Q (.tuple #[]) (DH encL G B d' ++ (X ++ Y)) := by
  have hBl : Below (ltC c) 0 n d := by simp [Below]
  have key : CallR E false lim 122 [.slice p n cap, .int .i64 0, .int .i64 (n : Int), .int .i64 (lm : Int), .func (.func cl) #[] cs.toArray] (DH encL G B d ++ X) (Done G B n c 0 n d X) := by
    rw [CallR_run (E := E) (g := 122) (af := a122) (by simp [E, orc]) e122 rfl rfl]
    rw [b122, c122]
    simp only [n122, r122, SB, Nat.reduceLT, callee, aOp, ne_eq, Nat.reduceEqDiff, aBin, aUn, if_true, if_false, reduceCtorEq, frame0, place, notTuple, Nat.reduceAdd, Nat.reduceLeDiff, resVal, dite_true, dite_false, Int.reduceEq, Int.reduceLT, Int.reduceLE]
    rw [Ret_loop, ← Ret_inLoop]
    exact pdq_loop (X := X) (cap := cap) hp hB hl hn2 hc hS hn3 (n + 1) 0 n lm true true d X _ (by omega) (by omega) (by omega) hd hBl hlm (by simp only [FB, Nat.reduceEqDiff]) (by simp only [Int.cast_ofNat_Int, FB, Nat.reduceEqDiff]) (by simp only [FB, Nat.reduceEqDiff]) (by simp only [FB, Nat.reduceEqDiff]) (by simp only [FB, Nat.reduceEqDiff]) (by simp only [FB, Nat.reduceEqDiff]) (by simp only [FB, Nat.reduceEqDiff])
  obtain ⟨k, v, H', hx, d', Y, h1, h2, h3, rfl, rfl⟩ := key
  exact ⟨d', Y, h1, h2, h3, fun Q => CallR.det hx⟩
theorem sort_ok [OB] {G X : Heap} {B lim cap n : Nat} {p : Option Addr} {c : Go.Net.Leg → Go.Net.Leg → Int} {cl : FuncId} {cs : List Value} (hp : p = some ⟨B, 0, none⟩) (hB : B < G.length) (hl : lim ≤ B) (hn2 : n < 2 ^ 61) (hc : ∀ (mp : Bool) (lim : Nat) (x y : Go.Net.Leg) (H : Heap) (Q : Value → Heap → Prop), CallR E mp lim cl (.agg (encL x).toArray :: .agg (encL y).toArray :: cs) H Q = Q (.int .i64 (c x y)) H) (hS : SWO (ltC c)) (hn3 : n < 65536) {d : Array Go.Net.Leg} (hd : d.size = n) :
    ∃ d' Y, d'.size = n ∧ PermIn 0 n d d' ∧ SortedIn (ltC c) 0 n d' ∧ ∀ Q, CallR E false lim 106 [.slice p n cap, .func (.func cl) #[] cs.toArray] (DH encL G B d ++ X) Q = Q (.tuple #[]) (DH encL G B d' ++ (X ++ Y)) := by
  have key : CallR E false lim 106 [.slice p n cap, .func (.func cl) #[] cs.toArray] (DH encL G B d ++ X) (Done G B n c 0 n d X) := by
    rw [CallR_run (E := E) (g := 106) (af := a106) (by simp [E, orc]) e106 rfl rfl]
    rw [b106, c106]
    have w1 : IntKind.u64.wrap (n : Int) = (n : Int) := by rw [wrap64]; omega
    by_cases h0 : n = 0
    · subst h0
      obtain ⟨d', Y, k1, k2, k3, k4⟩ := pdq_call (X := X) (lm := 0) (cap := cap) hp hB hl hn2 hc hS hn3 hd (by omega)
      have k4' : ∀ Q, CallR E false lim 122 [.slice p 0 cap, .int .i64 0, .int .i64 0, .int .i64 0, .func (.func cl) #[] cs.toArray] (DH encL G B d ++ X) Q = Q (.tuple #[]) (DH encL G B d' ++ (X ++ Y)) := k4
      have w0 : IntKind.u64.wrap 0 = 0 := by decide
      simp only [n106, r106, w0, len0_ok, k4', SB, Nat.reduceLT, callee, aOp, ne_eq, Nat.reduceEqDiff, aBin, aUn, if_true, if_false, reduceCtorEq, frame0, place, notTuple, Nat.reduceAdd, Nat.reduceLeDiff, resVal, dite_true, dite_false, Int.reduceEq, Int.reduceLT, Int.reduceLE]
      exact ⟨_, _, k1, k2, k3, rfl, rfl⟩
    · obtain ⟨L, l1, l2, l3, l4⟩ := len_ok (x := n) hn3 (by omega)
      obtain ⟨d', Y, k1, k2, k3, k4⟩ := pdq_call (X := X) (lm := L) (cap := cap) hp hB hl hn2 hc hS hn3 hd (by omega)
      simp only [n106, r106, w1, l4, k4, SB, Nat.reduceLT, callee, aOp, ne_eq, Nat.reduceEqDiff, aBin, aUn, if_true, if_false, reduceCtorEq, frame0, place, notTuple, Nat.reduceAdd, Nat.reduceLeDiff, resVal, dite_true, dite_false, Int.reduceEq, Int.reduceLT, Int.reduceLE]
      exact ⟨_, _, k1, k2, k3, rfl, rfl⟩
  obtain ⟨k, v, H', hx, d', Y, h1, h2, h3, rfl, rfl⟩ := key
  exact ⟨d', Y, h1, h2, h3, fun Q => CallR.det hx⟩
theorem sort_nil [OB] {lim cap : Nat} {p : Option Addr} {cl : FuncId} {cs : List Value} {H : Heap} {Q : Value → Heap → Prop} : CallR E false lim 106 [.slice p 0 cap, .func (.func cl) #[] cs.toArray] H Q = Q (.tuple #[]) H := by
  have hi : ∀ Q, CallR E false lim 125 [.slice p 0 cap, .int .i64 0, .int .i64 0, .func (.func cl) #[] cs.toArray] H Q = Q (.tuple #[]) H := by
    intro Q
    refine runs (by decide) e125 rfl ?_
    rw [b125, c125]
    have w1 : IntKind.i64.wrap 1 = 1 := by decide
    simp only [n125, r125, w1, Int.zero_add, Int.reduceLT, decide_false, SB, Nat.reduceLT, callee, aOp, ne_eq, Nat.reduceEqDiff, aBin, aUn, if_true, if_false, reduceCtorEq, frame0, place, notTuple, Nat.reduceAdd, Nat.reduceLeDiff, resVal, dite_true, dite_false, Int.reduceEq, Int.reduceLT, Int.reduceLE]
    rw [Ret_loop, Ret_code l125_2.eq_1]
    simp only [n125, r125, SB, Nat.reduceLT, callee, aOp, ne_eq, Nat.reduceEqDiff, aBin, aUn, if_true, if_false, reduceCtorEq, frame0, place, notTuple, Nat.reduceAdd, Nat.reduceLeDiff, resVal, dite_true, dite_false, Int.reduceEq, Int.reduceLT, Int.reduceLE]
  have hq : ∀ Q, CallR E false lim 122 [.slice p 0 cap, .int .i64 0, .int .i64 0, .int .i64 0, .func (.func cl) #[] cs.toArray] H Q = Q (.tuple #[]) H := by
    intro Q
    refine runs (by decide) e122 rfl ?_
    rw [b122, c122]
    simp only [n122, r122, SB, Nat.reduceLT, callee, aOp, ne_eq, Nat.reduceEqDiff, aBin, aUn, if_true, if_false, reduceCtorEq, frame0, place, notTuple, Nat.reduceAdd, Nat.reduceLeDiff, resVal, dite_true, dite_false, Int.reduceEq, Int.reduceLT, Int.reduceLE]
    rw [Ret_loop, Ret_code body_eq]
    simp only [p1, p2, hdc, tlc, unb, l122_1]
    have w1 : IntKind.i64.wrap 0 = 0 := by decide
    simp only [n122, r122, w1, hi, Int.sub_self, SB, Nat.reduceLT, callee, aOp, ne_eq, Nat.reduceEqDiff, aBin, aUn, if_true, if_false, reduceCtorEq, frame0, place, notTuple, Nat.reduceAdd, Nat.reduceLeDiff, resVal, dite_true, dite_false, Int.reduceEq, Int.reduceLT, Int.reduceLE]
  refine runs (by decide) e106 rfl ?_
  rw [b106, c106]
  have w0 : IntKind.u64.wrap 0 = 0 := by decide
  simp only [n106, r106, w0, len0_ok, hq, SB, Nat.reduceLT, callee, aOp, ne_eq, Nat.reduceEqDiff, aBin, aUn, if_true, if_false, reduceCtorEq, frame0, place, notTuple, Nat.reduceAdd, Nat.reduceLeDiff, resVal, dite_true, dite_false, Int.reduceEq, Int.reduceLT, Int.reduceLE]
end Go.Proofs.Ytcmhnincbkbncaa.Fn

namespace Go.Proofs.Ytcmhnincbkbncaa.Fn
open Go.AM Go.AM.Sym Go.Net Go.Sort
set_option maxRecDepth 100000
set_option linter.unusedVariables false
set_option linter.unusedSimpArgs false
set_option maxHeartbeats 4000000
def cmpL (a b : Leg) : Int := if a.id < b.id then -1 else if b.id < a.id then 1 else 0
theorem nan_ok [OB] {mp : Bool} {lim : Nat} {a : Int} {H : Heap} {Q : Value → Heap → Prop} : CallR E mp lim 108 [.int .i64 a] H Q = Q (.bool false) H := by
  refine pc (by decide) e108 rfl rfl ?_
  rw [b108, c108]
  simp only [n108, r108, SB, Nat.reduceLT, callee, aOp, ne_eq, Nat.reduceEqDiff, aBin, aUn, if_true, if_false, reduceCtorEq, frame0, place, notTuple, Nat.reduceAdd, Nat.reduceLeDiff, resVal, dite_true, dite_false, Int.reduceEq, Int.reduceLT, Int.reduceLE]
theorem cmpi_ok [OB] {mp : Bool} {lim : Nat} {a b : Int} {H : Heap} {Q : Value → Heap → Prop} : CallR E mp lim 77 [.int .i64 a, .int .i64 b] H Q = Q (.int .i64 (if a < b then -1 else if b < a then 1 else 0)) H := by
  refine pc (by decide) e77 rfl rfl ?_
  rw [b77, c77]
  by_cases h1 : a < b
  · simp only [n77, r77, nan_ok, eq_true h1, SB, Nat.reduceLT, callee, aOp, ne_eq, Nat.reduceEqDiff, aBin, aUn, if_true, if_false, reduceCtorEq, frame0, place, notTuple, Nat.reduceAdd, Nat.reduceLeDiff, resVal, dite_true, dite_false, Int.reduceEq, Int.reduceLT, Int.reduceLE]
  · by_cases h2 : b < a
    · simp only [n77, r77, nan_ok, eq_false h1, eq_true h2, SB, Nat.reduceLT, callee, aOp, ne_eq, Nat.reduceEqDiff, aBin, aUn, if_true, if_false, reduceCtorEq, frame0, place, notTuple, Nat.reduceAdd, Nat.reduceLeDiff, resVal, dite_true, dite_false, Int.reduceEq, Int.reduceLT, Int.reduceLE]
    · simp only [n77, r77, nan_ok, eq_false h1, eq_false h2, SB, Nat.reduceLT, callee, aOp, ne_eq, Nat.reduceEqDiff, aBin, aUn, if_true, if_false, reduceCtorEq, frame0, place, notTuple, Nat.reduceAdd, Nat.reduceLeDiff, resVal, dite_true, dite_false, Int.reduceEq, Int.reduceLT, Int.reduceLE]
theorem cmpL_ok [OB] (mp : Bool) (lim : Nat) (a b : Leg) (H : Heap) (Q : Value → Heap → Prop) : CallR E mp lim 76 [.agg (encL a).toArray, .agg (encL b).toArray] H Q = Q (.int .i64 (cmpL a b)) H := by
  refine pc (by decide) e76 rfl rfl ?_
  rw [b76, c76]
  simp only [n76, r76, encL_len, encL_0, encL_1, encL_2, encL_3, encL_4, encL_5, encL_6, encL_7, take_all, cmpi_ok, cmpL, SB, Nat.reduceLT, callee, aOp, ne_eq, Nat.reduceEqDiff, aBin, aUn, if_true, if_false, reduceCtorEq, frame0, place, notTuple, Nat.reduceAdd, Nat.reduceLeDiff, resVal, dite_true, dite_false, Int.reduceEq, Int.reduceLT, Int.reduceLE]
theorem cmpL_lt (a b : Leg) : ltC cmpL a b = decide (a.id < b.id) := by
  unfold ltC cmpL
  by_cases h1 : a.id < b.id
  · simp [h1]
  · by_cases h2 : b.id < a.id
    · simp [h1, h2]
    · simp [h1, h2]
theorem cmpL_swo : SWO (ltC cmpL) := by
  refine ⟨fun x => ?_, fun x y z h1 h2 => ?_, fun x y z h1 h2 => ?_⟩
  · rw [cmpL_lt]; simp
  · rw [cmpL_lt] at *; simp only [decide_eq_true_eq] at *; omega
  · rw [cmpL_lt] at *; simp only [decide_eq_false_iff_not] at *; omega
theorem perm_list {n : Nat} {d d' : Array Leg} (hd : d.size = n) (h : PermIn 0 n d d') : d'.toList.Perm d.toList := by
  obtain ⟨h1, h2, h3⟩ := h
  subst hd
  rw [Array.extract_size] at h3
  rw [← h1, Array.extract_size] at h3
  exact h3
theorem sorted_list {n : Nat} {d : Array Leg} (hd : d.size = n) (h : SortedIn (ltC cmpL) 0 n d) (hid : d.toList.Pairwise (fun a b => a.id ≠ b.id)) : d.toList.Pairwise (fun a b => a.id < b.id) := by
  rw [List.pairwise_iff_getElem] at *
  intro i j hi hj hij
  have h1 := h i j (Nat.zero_le _) hij (by simpa [hd] using hj)
  have h2 := hid i j hi hj hij
  rw [cmpL_lt] at h1
  have e1 : d[i]! = d.toList[i] := by rw [getElem!_pos d i (by simpa using hi)]; simp
  have e2 : d[j]! = d.toList[j] := by rw [getElem!_pos d j (by simpa using hj)]; simp
  rw [e1, e2] at h1
  simp only [decide_eq_false_iff_not] at h1
  omega
theorem DH_same {G : Heap} {B : Nat} {l : List Leg} (hB : hget G B = .cells false (l.flatMap encL)) : DH encL G B l.toArray = G := by
  have hl := hget_alive hB
  unfold DH
  apply List.ext_getElem
  · simp
  intro i h1 h2
  rw [List.getElem_set]
  split
  · rename_i e; subst e
    unfold hget at hB
    rw [List.getD_eq_getElem?_getD, List.getElem?_eq_getElem hl] at hB
    exact hB.symm
  · rfl
theorem legs_ids {P : List Int} {L : List Leg} (h : LegsOk P L) : L.Pairwise (fun a b => a.id ≠ b.id) := by
  rw [List.pairwise_iff_getElem]
  intro i j hi hj hij e
  have h2 := (h j hj).2.1
  rw [gt_lt hj] at h2
  apply h2
  rw [List.mem_map]
  exact ⟨L[i], List.mem_take_iff_getElem.2 ⟨i, by omega, rfl⟩, e⟩
theorem sorted_ok [OB] {lim Bx c : Nat} {p : Option Addr} {o : Bool} {L : List Leg} {H : Heap} {Q : Value → Heap → Prop} (hB : hget H Bx = .cells o [.slice p L.length c]) (hs : Sl H encL 8 p L) (hn : L.length ≤ 200) (hlim : lim ≤ H.length) (hid : L.Pairwise (fun a b => a.id ≠ b.id))
    (hQ : ∀ H' q cap (S : List Leg), Chg [] H H' → Sl H' encL 8 q S → S.Perm L → S.Pairwise (fun a b => a.id < b.id) → (∀ a, q = some a → H.length ≤ a.block) → Q (.slice q L.length cap) H') :
    CallR E false lim 74 [.func (.func 107) #[] #[.pointer (some ⟨Bx, 0, none⟩)], .func (.func 76) #[] #[]] H Q := by
  refine runs' (by decide) e74 rfl ?_
  rw [b74, c74]
  simp only [n74, r74, SB, Nat.reduceLT, callee, aOp, ne_eq, Nat.reduceEqDiff, aBin, aUn, if_true, if_false, reduceCtorEq, frame0, place, notTuple, Nat.reduceAdd, Nat.reduceLeDiff, resVal, dite_true, dite_false, Int.reduceEq, Int.reduceLT, Int.reduceLE]
  rw [List.append_nil]
  refine collect_ok hB hs (by omega) hlim fun H' q cap hC hO => ?_
  have hl := hC.len
  refine Ret_pad ?_
  rcases hO with ⟨h0, rfl, rfl⟩ | ⟨R, rfl, rfl, hR, hRl⟩
  · subst h0
    have hsn : ∀ X Q, CallR E false lim 106 [.slice none 0 0, .func (.func 76) #[] #[]] (H' ++ X) Q = Q (.tuple #[]) (H' ++ X) := fun X Q => sort_nil (cs := [])
    simp only [n74, r74, hsn, List.length_nil, SB, Nat.reduceLT, callee, aOp, ne_eq, Nat.reduceEqDiff, aBin, aUn, if_true, if_false, reduceCtorEq, frame0, place, notTuple, Nat.reduceAdd, Nat.reduceLeDiff, resVal, dite_true, dite_false, Int.reduceEq, Int.reduceLT, Int.reduceLE]
    exact hQ _ _ _ [] hC.app (show Sl _ encL 8 none [] from rfl) (List.Perm.refl _) List.Pairwise.nil (fun a e => by cases e)
  · obtain ⟨d, Y, h1, h2, h3, h4⟩ := sort_ok (X := []) (G := H') (B := R) (lim := lim) (cap := loose 8) (n := L.length) (p := some ⟨R, 0, none⟩) (c := cmpL) (cl := 76) (cs := []) rfl (hget_alive hR) (by omega) (by omega) (fun mp lim x y H Q => cmpL_ok mp lim x y H Q) cmpL_swo (by omega) (d := L.toArray) (by simp)
    rw [DH_same hR] at h4
    have hp : d.toList.Perm L := perm_list (d := L.toArray) (n := L.length) (by simp) h2
    simp only [List.nil_append] at h4
    have h4' : ∀ Q, CallR E false lim 106 [.slice (some ⟨R, 0, none⟩) L.length (loose 8), .func (.func 76) #[] #[]] (H' ++ []) Q = Q (.tuple #[]) (DH encL H' R d ++ Y) := h4
    simp only [n74, r74, h4', SB, Nat.reduceLT, callee, aOp, ne_eq, Nat.reduceEqDiff, aBin, aUn, if_true, if_false, reduceCtorEq, frame0, place, notTuple, Nat.reduceAdd, Nat.reduceLeDiff, resVal, dite_true, dite_false, Int.reduceEq, Int.reduceLT, Int.reduceLE]
    have hRl' := hget_alive hR
    have hm : Mut H' (DH encL H' R d) R := ⟨by simp [DH], fun j hj => hget_set_ne hj⟩
    refine hQ _ _ _ d.toList ((hC.mut hm (.inr (by omega))).app) (DH_sl rfl hRl' encL_len) hp ?_ (fun a e => by cases e; show H.length ≤ R; omega)
    exact sorted_list h1 h3 ((hp.pairwise_iff (fun h e => h e.symm)).2 hid)
end Go.Proofs.Ytcmhnincbkbncaa.Fn

namespace Go.Proofs.Ytcmhnincbkbncaa.Fn
open Go.AM Go.AM.Sym Go.Net
set_option maxRecDepth 100000
set_option linter.unusedVariables false
set_option linter.unusedSimpArgs false
set_option maxHeartbeats 4000000
theorem values_ok [OB] {lim n c : Nat} {p : Option Addr} {H : Heap} {Q : Value → Heap → Prop} : CallR E false lim 75 [.slice p n c] H Q = Q (.func (.func 107) #[] #[.pointer (some ⟨H.length, 0, none⟩)]) (H ++ [.cells false [.slice p n c]]) := by
  rw [CallR_run (E := E) (by simp [E, orc]) (show E.tr 75 = some a75 from e75) rfl rfl, b75, c75]
  rw [← List.append_nil H]
  simp only [n75, r75, SB, Nat.reduceLT, callee, aOp, ne_eq, Nat.reduceEqDiff, aBin, aUn, if_true, if_false, reduceCtorEq, frame0, place, notTuple, Nat.reduceAdd, Nat.reduceLeDiff, resVal, dite_true, dite_false, Int.reduceEq, Int.reduceLT, Int.reduceLE]
def stopOf (x : Leg × Int) : Int × Int × Int := (x.1.id, x.2, x.2 + x.1.mins)
theorem pick_drop {pos : Int → Nat} {late : List Int} {p t : Int} {S : List Leg} {i : Nat} (h : i < S.length) : (S.drop i).findSome? (pickOk pos late p t) = match pickOk pos late p t (gt S i) with | some r => some r | none => (S.drop (i + 1)).findSome? (pickOk pos late p t) := by
  rw [List.drop_eq_getElem_cons h, List.findSome?_cons, gt_lt h]
  cases pickOk pos late p t S[i] <;> rfl
theorem way_inner [OB] {lim R left c16 cs cw : Nat} {q pw p16 : Option Addr} {P : List Int} {L S : List Leg} {Ts : List (List Int)} {w : List (Int × Int × Int)} {plant there : Int} {H G : Heap} {fr : Nat → Value} {K : List AItem} {Z : Value → Heap → Prop}
    (hno : NetOk 50 P L (posN P)) (hS : ∀ l ∈ S, l ∈ L) (hnS : S.length ≤ 200) (hm : hget H R = .map (posV P)) (hlim : lim ≤ H.length) (hE : Chg [] H G) (hq : Sl H encL 8 q S) (h16 : Sl H encT 50 p16 Ts) (hTs : ∀ T ∈ Ts, okT T) (hleft : left < Ts.length) (hnT : Ts.length < 2 ^ 40) (hth : 0 ≤ there ∧ there ≤ maxTime) (hO : Own H.length G enc3 3 pw cw w) (hw : w.length < 2 ^ 31)
    (f10 : fr 10 = .map (some R)) (f16 : fr 16 = .slice p16 Ts.length c16) (f18 : fr 18 = .slice pw w.length cw) (f19 : fr 19 = .int .i64 plant) (f20 : fr 20 = .int .i64 there) (f21 : fr 21 = .int .i64 (left : Int)) (f77 : fr 77 = .slice q S.length cs) (f78 : fr 78 = .int .i64 (S.length : Int)) (f79 : fr 79 = .int .i64 0)
    (hR : ∀ fr' G' pw' cw', Chg [] H G' → fr' 10 = .map (some R) → fr' 16 = .slice p16 Ts.length c16 → fr' 17 = fr 17 → fr' 21 = .int .i64 (left : Int) →
      (∀ w' : List (Int × Int × Int), ∀ plant' there' : Int, (match pickW (posN P) S (gt Ts left) plant there with | some (l, a) => w' = w ++ [stopOf (l, a)] ∧ plant' = l.dst ∧ there' = a + l.mins | none => w' = w ∧ plant' = plant ∧ there' = there) → fr' 18 = .slice pw' w'.length cw' ∧ fr' 19 = .int .i64 plant' ∧ fr' 20 = .int .i64 there' ∧ Own H.length G' enc3 3 pw' cw' w') → Ret E a30 lim K fr' (G' ++ []) Z) :
    Ret E a30 lim (.code (.loop l30_1) :: .inBlock 2 :: K) fr G Z := by
  refine Ret_rounds (fun i => S.length - i) (fun i fr' G' => i ≤ S.length ∧ fr' 10 = .map (some R) ∧ fr' 16 = .slice p16 Ts.length c16 ∧ fr' 17 = fr 17 ∧ fr' 18 = .slice pw w.length cw ∧ fr' 19 = .int .i64 plant ∧ fr' 20 = .int .i64 there ∧ fr' 21 = .int .i64 (left : Int) ∧ fr' 77 = .slice q S.length cs ∧ fr' 78 = .int .i64 (S.length : Int) ∧ fr' 79 = .int .i64 (i : Int) ∧
    Chg [] H G' ∧ Own H.length G' enc3 3 pw cw w ∧ pickW (posN P) S (gt Ts left) plant there = (S.drop i).findSome? (pickOk (posN P) (gt Ts left) plant there)) 0
    ⟨Nat.zero_le _, f10, f16, rfl, f18, f19, f20, f21, f77, f78, f79, hE, hO, rfl⟩ ?_
  intro i fr' G' ⟨hi, g10, g16, g17, g18, g19, g20, g21, g77, g78, g79, hC, hO', hpk⟩ hN
  have hl := hC.len
  rw [Ret_code l30_1.eq_1]
  refine Ret_pad ?_
  by_cases hlt : i < S.length
  case neg =>
    obtain rfl : i = S.length := by omega
    rw [List.drop_length, List.findSome?_nil] at hpk
    simp only [n30, r30, g10, g16, g18, g19, g20, g21, g77, g78, g79, hlt, SB, Nat.reduceLT, callee, aOp, ne_eq, Nat.reduceEqDiff, aBin, aUn, if_true, if_false, reduceCtorEq, frame0, place, notTuple, Nat.reduceAdd, Nat.reduceLeDiff, resVal, dite_true, dite_false, Int.reduceEq, Int.reduceLT, Int.reduceLE]
    refine hR _ _ pw cw hC (by simp only [g10, FB, Nat.reduceEqDiff]) (by simp only [g16, FB, Nat.reduceEqDiff]) (by rw [← g17]; exact (by simp only [FB, Nat.reduceEqDiff])) (by simp only [g21, FB, Nat.reduceEqDiff]) fun w' plant' there' h => ?_
    rw [hpk] at h
    obtain ⟨rfl, rfl, rfl⟩ := h
    exact ⟨(by simp only [g18, FB, Nat.reduceEqDiff]), (by simp only [g19, FB, Nat.reduceEqDiff]), (by simp only [g20, FB, Nat.reduceEqDiff]), hO'⟩
  have hsl := hC.ext.sl hq
  have hld := fun X => (hsl.app X).loadCells encL_len hlt
  have hidx := fun c (k : IntKind) (H1 : Heap) => hsl.idx (c := c) (k := k) (H1 := H1) hlt
  have hw1 : IntKind.i64.wrap ((i : Int) + 1) = ((i + 1 : Nat) : Int) := wrap_nat (by omega)
  have hlG : lim ≤ G'.length := by omega
  have hin := hS _ (gt_mem hlt)
  have hf := hno.fine _ hin
  rw [pick_drop hlt] at hpk
  by_cases hfr : (gt S i).frm = plant
  case neg =>
    have e : pickOk (posN P) (gt Ts left) plant there (gt S i) = none := by unfold pickOk; rw [if_neg hfr]
    rw [e] at hpk
    simp only [n30, r30, g10, g16, g18, g19, g20, g21, g77, g78, g79, hlt, hld, hidx, hw1, encL_len, encL_0, encL_1, encL_2, encL_3, encL_4, encL_5, encL_6, encL_7, take_all, hlG, setAll_full, eq_false hfr, SB, Nat.reduceLT, callee, aOp, ne_eq, Nat.reduceEqDiff, aBin, aUn, if_true, if_false, reduceCtorEq, frame0, place, notTuple, Nat.reduceAdd, Nat.reduceLeDiff, resVal, dite_true, dite_false, Int.reduceEq, Int.reduceLT, Int.reduceLE]
    exact hN (i + 1) _ _ ⟨by omega, (by simp only [g10, FB, Nat.reduceEqDiff]), (by simp only [g16, FB, Nat.reduceEqDiff]), by rw [← g17]; exact (by simp only [FB, Nat.reduceEqDiff]), (by simp only [g18, FB, Nat.reduceEqDiff]), (by simp only [g19, FB, Nat.reduceEqDiff]), (by simp only [g20, FB, Nat.reduceEqDiff]), (by simp only [g21, FB, Nat.reduceEqDiff]), (by simp only [g77, FB, Nat.reduceEqDiff]), (by simp only [g78, FB, Nat.reduceEqDiff]), (by simp only [FB, Nat.reduceEqDiff]), hC.app, hO'.app _, hpk⟩ (by omega)
  unfold maxTime at hth
  have hnx := fun (H : Heap) (mp : Bool) (lim : Nat) (Q : Value → Heap → Prop) => next_ok (mp := mp) (lim := lim) (H := H) (Q := Q) (l := gt S i) (r := there) hf (by omega) (by omega)
  cases hx : nextD (gt S i) there with
  | none =>
    have e : pickOk (posN P) (gt Ts left) plant there (gt S i) = none := by unfold pickOk; rw [if_pos hfr]; simp only [hx]
    rw [e] at hpk
    rw [hx] at hnx
    simp only [Option.map_none, depV] at hnx
    simp only [n30, r30, g10, g16, g18, g19, g20, g21, g77, g78, g79, hlt, hld, hidx, hw1, encL_len, encL_0, encL_1, encL_2, encL_3, encL_4, encL_5, encL_6, encL_7, take_all, hlG, setAll_full, eq_true hfr, hnx, SB, Nat.reduceLT, callee, aOp, ne_eq, Nat.reduceEqDiff, aBin, aUn, if_true, if_false, reduceCtorEq, frame0, place, notTuple, Nat.reduceAdd, Nat.reduceLeDiff, resVal, dite_true, dite_false, Int.reduceEq, Int.reduceLT, Int.reduceLE]
    exact hN (i + 1) _ _ ⟨by omega, (by simp only [g10, FB, Nat.reduceEqDiff]), (by simp only [g16, FB, Nat.reduceEqDiff]), by rw [← g17]; exact (by simp only [FB, Nat.reduceEqDiff]), (by simp only [g18, FB, Nat.reduceEqDiff]), (by simp only [g19, FB, Nat.reduceEqDiff]), (by simp only [g20, FB, Nat.reduceEqDiff]), (by simp only [g21, FB, Nat.reduceEqDiff]), (by simp only [g77, FB, Nat.reduceEqDiff]), (by simp only [g78, FB, Nat.reduceEqDiff]), (by simp only [FB, Nat.reduceEqDiff]), hC.app, hO'.app _, hpk⟩ (by omega)
  | some a =>
    rw [hx] at hnx
    simp only [Option.map_some, depV] at hnx
    have i2 : posN P (gt S i).dst < 50 := hno.lt _ (hno.dst _ hin)
    obtain ⟨j2, hj2⟩ := pos_yes (i := 0) (hno.dst _ hin)
    change findKey _ _ _ = some (some (j2, .int .i64 (posN P (gt S i).dst : Int))) at hj2
    have hmG := hC.get hm (hget_alive' hm) (by simp)
    have q3 : ∀ X, hget (G' ++ X) R = .map (posV P) := fun X => by rw [hget_old (hget_alive' hmG)]; exact hmG
    have hT := hTs _ (gt_mem hleft)
    have h16G := hC.ext.sl h16
    have ld16 := fun X => (h16G.app X).loadCell encT_len hleft i2
    rw [encT_get hT.1 i2] at ld16
    have ix16 := fun c (k : IntKind) (H1 : Heap) => h16G.idx (c := c) (k := k) (H1 := H1) hleft
    have z2 : (0 : Int) ≤ (posN P (gt S i).dst : Int) := by omega
    have z4 : (posN P (gt S i).dst : Int) < 50 := by omega
    by_cases hle : a + (gt S i).mins ≤ (gt Ts left).getD (posN P (gt S i).dst) (-1)
    case neg =>
      have e : pickOk (posN P) (gt Ts left) plant there (gt S i) = none := by unfold pickOk; rw [if_pos hfr]; simp only [hx]; rw [if_neg hle]
      rw [e] at hpk
      simp only [n30, r30, g10, g16, g18, g19, g20, g21, g77, g78, g79, hlt, hld, hidx, hw1, encL_len, encL_0, encL_1, encL_2, encL_3, encL_4, encL_5, encL_6, encL_7, take_all, hlG, setAll_full, eq_true hfr, hnx, q3, hj2, ld16, ix16, z2, z4, eq_false hle, Nat.mul_one, SB, Nat.reduceLT, callee, aOp, ne_eq, Nat.reduceEqDiff, aBin, aUn, if_true, if_false, reduceCtorEq, frame0, place, notTuple, Nat.reduceAdd, Nat.reduceLeDiff, resVal, dite_true, dite_false, Int.reduceEq, Int.reduceLT, Int.reduceLE]
      exact hN (i + 1) _ _ ⟨by omega, (by simp only [g10, FB, Nat.reduceEqDiff]), (by simp only [g16, FB, Nat.reduceEqDiff]), by rw [← g17]; exact (by simp only [FB, Nat.reduceEqDiff]), (by simp only [g18, FB, Nat.reduceEqDiff]), (by simp only [g19, FB, Nat.reduceEqDiff]), (by simp only [g20, FB, Nat.reduceEqDiff]), (by simp only [g21, FB, Nat.reduceEqDiff]), (by simp only [g77, FB, Nat.reduceEqDiff]), (by simp only [g78, FB, Nat.reduceEqDiff]), (by simp only [FB, Nat.reduceEqDiff]), hC.app, hO'.app _, hpk⟩ (by omega)
    have e : pickOk (posN P) (gt Ts left) plant there (gt S i) = some (gt S i, a) := by unfold pickOk; rw [if_pos hfr]; simp only [hx]; rw [if_pos hle]
    rw [e] at hpk
    obtain ⟨G3, e3, O3, C3, hold3, l3, hn3⟩ := hO'.step (lim' := lim) (bytes := 24) hlim enc3_len (by decide) (stopOf (gt S i, a)) (by unfold maxBytes; omega) (by omega) (by omega) [.cells false (encL (gt S i)), .cells false [.int .i64 a, .int .i64 (a + (gt S i).mins)], .cells false (enc3 (stopOf (gt S i, a)))] (G'.length + 2) 1 hget_new
    have e3' : enc3 (stopOf (gt S i, a)) = [.int .i64 (gt S i).id, .int .i64 a, .int .i64 (a + (gt S i).mins)] := rfl
    rw [e3'] at e3 hn3
    have d0 : hget (G3 ++ []) G'.length = .cells false (encL (gt S i)) := hn3 0 (by simp)
    have d1 : hget (G3 ++ []) (G'.length + 1) = .cells false [.int .i64 a, .int .i64 (a + (gt S i).mins)] := hn3 1 (by simp)
    simp only [n30, r30, g10, g16, g18, g19, g20, g21, g77, g78, g79, hlt, hld, hidx, hw1, encL_len, encL_0, encL_1, encL_2, encL_3, encL_4, encL_5, encL_6, encL_7, take_all, hlG, setAll_full, eq_true hfr, hnx, q3, hj2, ld16, ix16, z2, z4, eq_true hle, Nat.mul_one, e3, d0, d1, SB, Nat.reduceLT, callee, aOp, ne_eq, Nat.reduceEqDiff, aBin, aUn, if_true, if_false, reduceCtorEq, frame0, place, notTuple, Nat.reduceAdd, Nat.reduceLeDiff, resVal, dite_true, dite_false, Int.reduceEq, Int.reduceLT, Int.reduceLE]
    have cH := C3 [] H (Nat.le_refl _) hC
    rw [List.append_nil] at cH O3
    refine hR _ _ (some ⟨G'.length + 3, 0, none⟩) (loose 3) cH (by simp only [g10, FB, Nat.reduceEqDiff]) (by simp only [g16, FB, Nat.reduceEqDiff]) (by rw [← g17]; exact (by simp only [FB, Nat.reduceEqDiff])) (by simp only [g21, FB, Nat.reduceEqDiff]) fun w' plant' there' h => ?_
    rw [hpk] at h
    obtain ⟨rfl, rfl, rfl⟩ := h
    refine ⟨?_, (by simp only [FB, Nat.reduceEqDiff]), (by simp only [FB, Nat.reduceEqDiff]), O3⟩
    simp only [List.length_append, List.length_cons, List.length_nil, Nat.zero_add]
    exact (by simp only [FB, Nat.reduceEqDiff])
theorem pickW_in {pos : Int → Nat} {S : List Leg} {late : List Int} {p t a : Int} {l : Leg} (h : pickW pos S late p t = some (l, a)) : l ∈ S ∧ nextD l t = some a := by
  unfold pickW at h
  obtain ⟨S1, x, S2, hSe, hx, hnone⟩ := List.findSome?_eq_some_iff.1 h
  obtain ⟨g1, g2, g3, g4⟩ := pickOk_some hx
  simp only at g2 g3
  subst g2
  exact ⟨by rw [hSe]; simp, g3⟩
theorem Way_ok [OB] {lim : Nat} {pp pl : Option Addr} {P : List Int} {L : List Leg} {cp cl : Nat} {p q ready : Int} {H : Heap} {Q : Value → Heap → Prop} (hn : NetIn H pp pl P L) (hlim : lim ≤ H.length)
    (hbad : ∀ H', errA P L p q ready ≠ 0 → Chg [] H H' → Q (.tuple #[.slice none 0 0, .int .i64 (errA P L p q ready)]) H')
    (hnone : ∀ H', errA P L p q ready = 0 → IsArr L p ready q (-1) → Chg [] H H' → Q (.tuple #[.slice none 0 0, .int .i64 6]) H')
    (hok : ∀ H' v w pw cw, errA P L p q ready = 0 → Chg [] H H' → 0 ≤ v → IsArr L p ready q v → BestW L p ready q v w → w.length < 2 ^ 30 → Own H.length H' enc3 3 pw cw (w.map stopOf) → Q (.tuple #[.slice pw w.length cw, .int .i64 0]) H') :
    CallR E false lim 30 [.agg (netV pp P.length cp pl L.length cl).toArray, .int .i64 p, .int .i64 q, .int .i64 ready] H Q := by
  refine runs' (by decide) e30 rfl ?_
  rw [b30, c30]
  simp only [n30, r30, netV_len, netV_0, netV_1, take_all, SB, Nat.reduceLT, callee, aOp, ne_eq, Nat.reduceEqDiff, aBin, aUn, if_true, if_false, reduceCtorEq, frame0, place, notTuple, Nat.reduceAdd, Nat.reduceLeDiff, resVal, dite_true, dite_false, Int.reduceEq, Int.reduceLT, Int.reduceLE]
  refine allowed_ok (hn.app _) (by simp; omega) (fun H' he hE => ?_) (fun H' R he hE hm hR => ?_)
  · refine Ret_pad ?_
    simp only [n30, r30, he, eq_false he, SB, Nat.reduceLT, callee, aOp, ne_eq, Nat.reduceEqDiff, aBin, aUn, if_true, if_false, reduceCtorEq, frame0, place, notTuple, Nat.reduceAdd, Nat.reduceLeDiff, resVal, dite_true, dite_false, Int.reduceEq, Int.reduceLT, Int.reduceLE]
    exact hbad _ he (hE.chg.pre.app)
  obtain ⟨hv, hp, hq, hr, hr2⟩ := errA_0 he
  obtain ⟨v1, v2, v3, v4⟩ := validN_0 hv
  have hno := valid_net hv
  have hlE := hE.len
  simp only [List.length_append, List.length_cons, List.length_nil] at hlE hR
  have hnet : hget H' H.length = .cells false (netV pp P.length cp pl L.length cl) := hE.cells hget_new0
  have hnX := fun X => (Ext.refl.app (X := X)).cells hnet
  have hEH : Ext H H' := by obtain ⟨Y, rfl⟩ := hE; rw [List.append_assoc]; exact Ext.refl.app
  have hi : posN P q < 50 := hno.lt _ hq
  obtain ⟨j1, hj1⟩ := pos_yes (i := 0) hq
  change findKey _ _ _ = some (some (j1, .int .i64 (posN P q : Int))) at hj1
  have q3 : ∀ X, hget (H' ++ X) R = .map (posV P) := fun X => by rw [hget_old (hget_alive' hm)]; exact hm
  refine Ret_pad ?_
  simp only [n30, r30, hnX, netV_len, netV_0, netV_1, take_all, q3, hj1, show lim ≤ H'.length by omega, SB, Nat.reduceLT, callee, aOp, ne_eq, Nat.reduceEqDiff, aBin, aUn, if_true, if_false, reduceCtorEq, frame0, place, notTuple, Nat.reduceAdd, Nat.reduceLeDiff, resVal, dite_true, dite_false, Int.reduceEq, Int.reduceLT, Int.reduceLE]
  refine arrivals_ok ((hn.ext hEH).app _) hv (q3 _) hp hr hr2 (by simp; omega) fun H2 q1 cap n hC hfix hnof hnn hO => ?_
  have hC' := hC.pre
  have hl2 := hC.len
  simp only [List.length_append, List.length_cons, List.length_nil] at hl2
  have hgoal : hget H2 H'.length = .cells false [.int .i64 (posN P q : Int)] := hC.cells hget_new0 (by simp)
  have hgX := fun X => (Ext.refl.app (X := X)).cells hgoal
  have hnet2 := hC'.cells hnet (by simp)
  have hn2X := fun X => (Ext.refl.app (X := X)).cells hnet2
  have hlen : ((List.range (n + 1)).map (arrK 50 (posN P) (ready + 86400) L p ready)).length = n + 1 := by simp
  have hgt : ∀ k, k ≤ n → gt ((List.range (n + 1)).map (arrK 50 (posN P) (ready + 86400) L p ready)) k = arrK 50 (posN P) (ready + 86400) L p ready k := fun k hk => by
    rw [gt_lt (by rw [hlen]; omega)]; simp
  have hS := hO.sl encT_len
  have hld := fun X => (hS.app X).loadCell encT_len (i := n) (j := posN P q) (by rw [hlen]; omega) hi
  rw [hgt n (Nat.le_refl _), encT_get arrK_len hi] at hld
  have hidx := fun c (kk : IntKind) (H1 : Heap) => hS.idx (c := c) (k := kk) (H1 := H1) (i := n) (by rw [hlen]; omega)
  rw [hlen] at hidx
  have hw1 : IntKind.i64.wrap (((n + 1 : Nat) : Int) - 1) = (n : Int) := by rw [wrap_id (by omega) (by omega)]; omega
  have hv := arrK_all hno hp hr (by omega : ready ≤ ready + 86400) hfix q hq
  change IsArr L p ready q _ at hv
  generalize hve : (arrK 50 (posN P) (ready + 86400) L p ready n).getD (posN P q) (-1) = v at *
  have z1 : (0 : Int) ≤ (posN P q : Int) := by omega
  have z2 : (posN P q : Int) < 50 := by omega
  have z3 : posN P q ≤ 49 := by omega
  refine Ret_pad ?_
  by_cases hvn : v < 0
  · simp only [n30, r30, hn2X, hgX, hidx, hld, hw1, z1, z2, z3, Nat.mul_one, netV_len, netV_0, netV_1, take_all, show lim ≤ H2.length by omega, eq_true hvn, SB, Nat.reduceLT, callee, aOp, ne_eq, Nat.reduceEqDiff, aBin, aUn, if_true, if_false, reduceCtorEq, frame0, place, notTuple, Nat.reduceAdd, Nat.reduceLeDiff, resVal, dite_true, dite_false, Int.reduceEq, Int.reduceLT, Int.reduceLE]
    refine hnone _ he ?_ ((hEH.chg.trans hC').app)
    rcases hv with ⟨rfl, h⟩ | ⟨⟨⟨j, hw⟩, _⟩, _⟩
    · exact .inl ⟨rfl, h⟩
    · have := hw.later hno.fine; omega
  obtain ⟨k, hk, hkv, hkn⟩ := first_at (f := fun k => (arrK 50 (posN P) (ready + 86400) L p ready k).getD (posN P q) (-1)) hve
  replace hkv : (arrK 50 (posN P) (ready + 86400) L p ready k).getD (posN P q) (-1) = v := hkv
  replace hkn : ∀ j, j < k → (arrK 50 (posN P) (ready + 86400) L p ready j).getD (posN P q) (-1) ≠ v := hkn
  have h71 := fun X (mp : Bool) (lim : Nat) (Q : Value → Heap → Prop) => index_ok (mp := mp) (lim := lim) (Q := Q) (k := k) (cap := cap) (t := v) (B := H2.length) (H := H2 ++ Blk.cells false [.int .i64 v] :: X) hi (hgX _) hget_new0 (hS.app _) (fun T hT => by obtain ⟨j, _, rfl⟩ := List.mem_map.1 hT; exact arrK_len) (by rw [hlen]; omega) (by rw [hlen]; omega) (by rw [hgt k hk]; exact hkv) (fun j hj => by rw [hgt j (by omega)]; exact hkn j hj)
  rw [hlen] at h71
  have h67 := fun (H : Heap) (mp : Bool) (lim : Nat) (Q : Value → Heap → Prop) => one_ok (mp := mp) (lim := lim) (H := H) (Q := Q) (i := posN P q) (t := v) hi
  have hE2 : Ext H H2 := by obtain ⟨Y, rfl⟩ := hC'.ext; exact hEH.app
  have hm2 : hget H2 R = .map (posV P) := hC'.get hm (hget_alive' hm) (by simp)
  have q32 : ∀ X, hget (H2 ++ X) R = .map (posV P) := fun X => by rw [hget_old (hget_alive' hm2)]; exact hm2
  have hv0 : 0 ≤ v := by omega
  have hvm : v ≤ maxTime := by
    rcases hv with ⟨rfl, h⟩ | ⟨⟨⟨j, hw⟩, _⟩, _⟩
    · omega
    · cases hw with
      | nil => exact hr2
      | snoc _ hl _ hd _ =>
        obtain ⟨d, hd1, hd2, rfl⟩ := hd
        unfold goes at hd2
        simp only [Bool.and_eq_true, decide_eq_true_eq] at hd2
        exact hd2.2
  simp only [n30, r30, hn2X, hgX, hidx, hld, hw1, z1, z2, z3, Nat.mul_one, netV_len, netV_0, netV_1, take_all, show lim ≤ H2.length by omega, eq_false hvn, h71, h67, SB, Nat.reduceLT, callee, aOp, ne_eq, Nat.reduceEqDiff, aBin, aUn, if_true, if_false, reduceCtorEq, frame0, place, notTuple, Nat.reduceAdd, Nat.reduceLeDiff, resVal, dite_true, dite_false, Int.reduceEq, Int.reduceLT, Int.reduceLE]
  refine latest_ok (R := R) (n0 := k) ((hn.ext hE2).app _) hno (q32 _) (okT_one hi (by omega)) (by omega) (by omega) (by simp; omega) fun H3 p3 cap3 hC3 hO3 => ?_
  have hl3 := hC3.len
  simp only [List.length_append, List.length_cons, List.length_nil] at hl3
  have hC3' := hC3.pre
  have hnet3 := hC3'.cells hnet2 (by simp)
  have hn3X := fun X => (Ext.refl.app (X := X)).cells hnet3
  have hE3 : Ext H H3 := hE2.trans hC3'.ext
  have hm3 : hget H3 R = .map (posV P) := hC3'.get hm2 (hget_alive' hm2) (by simp)
  have hlen3 : ((List.range (k + 1)).map (exaF P L (oneT 50 (posN P q) v))).length = k + 1 := by simp
  have hgt3 : ∀ j, j ≤ k → gt ((List.range (k + 1)).map (exaF P L (oneT 50 (posN P q) v))) j = exaK 50 (posN P) L q v j := fun j hj => by
    rw [gt_lt (by rw [hlen3]; omega)]; simp [exaF_exaK]
  have hS3 := hO3.sl encT_len
  refine Ret_pad ?_
  simp only [n30, r30, hn3X, netV_len, netV_0, netV_1, values_ok, SB, Nat.reduceLT, callee, aOp, ne_eq, Nat.reduceEqDiff, aBin, aUn, if_true, if_false, reduceCtorEq, frame0, place, notTuple, Nat.reduceAdd, Nat.reduceLeDiff, resVal, dite_true, dite_false, Int.reduceEq, Int.reduceLT, Int.reduceLE]
  refine sorted_ok (L := L) (c := cl) (p := pl) hget_new0 ((hE3.app).sl hn.sl) v2 (by simp; omega) (legs_ids v4) fun H4 q4 cap4 S hC4 hS4 hperm hsorted hq4 => ?_
  have hl4 := hC4.len
  simp only [List.length_append, List.length_cons, List.length_nil] at hl4
  have hC4' := hC4.pre
  have hE4 : Ext H H4 := hE3.trans hC4'.ext
  have hm4 : hget H4 R = .map (posV P) := hC4'.get hm3 (hget_alive' hm3) (by simp)
  have hS4T := hC4'.ext.sl hS3
  have hmem : ∀ l, l ∈ S ↔ l ∈ L := fun l => hperm.mem_iff
  have hSl : S.length = L.length := hperm.length_eq
  have hTok : ∀ T ∈ (List.range (k + 1)).map (exaF P L (oneT 50 (posN P q) v)), okT T := fun T hT => by
    obtain ⟨j, _, rfl⟩ := List.mem_map.1 hT
    exact exaF_okT hno (okT_one hi (by omega)) j
  obtain ⟨hbest, hbl⟩ := goW_best hno hp hq hr hv0 hmem hsorted (late := exaK 50 (posN P) L q v) (fun _ => rfl) hv hkv hkn
  generalize hTs : (List.range (k + 1)).map (exaF P L (oneT 50 (posN P q) v)) = Ts at *
  refine Ret_pad ?_
  have wk : IntKind.i64.wrap ((k : Int) - 1) = (k : Int) - 1 := wrap_id (by omega) (by omega)
  simp only [n30, r30, wk, SB, Nat.reduceLT, callee, aOp, ne_eq, Nat.reduceEqDiff, aBin, aUn, if_true, if_false, reduceCtorEq, frame0, place, notTuple, Nat.reduceAdd, Nat.reduceLeDiff, resVal, dite_true, dite_false, Int.reduceEq, Int.reduceLT, Int.reduceLE]
  refine Ret_rounds (fun s : (Nat × Int × Int) × List (Int × Int × Int) × Option Addr × Nat => s.1.1) (fun s fr G => fr 10 = .map (some R) ∧ fr 16 = .slice p3 Ts.length cap3 ∧ fr 17 = .slice q4 S.length cap4 ∧ fr 18 = .slice s.2.2.1 s.2.1.length s.2.2.2 ∧ fr 19 = .int .i64 s.1.2.1 ∧ fr 20 = .int .i64 s.1.2.2 ∧ fr 21 = .int .i64 ((s.1.1 : Int) - 1) ∧ s.1.1 ≤ k ∧ Chg [] H4 G ∧ Own H4.length G enc3 3 s.2.2.1 s.2.2.2 s.2.1 ∧
      0 ≤ s.1.2.2 ∧ s.1.2.2 ≤ maxTime ∧ s.2.1 ++ (goW (posN P) S (exaK 50 (posN P) L q v) s.1.1 s.1.2.1 s.1.2.2).map stopOf = (goW (posN P) S (exaK 50 (posN P) L q v) k p ready).map stopOf ∧ s.2.1.length + s.1.1 ≤ k) ((k, p, ready), [], none, 0)
    ⟨(by simp only [FB, Nat.reduceEqDiff]), by rw [hlen3]; exact (by simp only [FB, Nat.reduceEqDiff]), by rw [hSl]; exact (by simp only [FB, Nat.reduceEqDiff]), (by simp only [List.length_nil, FB, Nat.reduceEqDiff]), (by simp only [FB, Nat.reduceEqDiff]), (by simp only [FB, Nat.reduceEqDiff]), by rfl, Nat.le_refl _, Chg.refl.app, .nil, hr, hr2, rfl, by simp⟩ ?_
  rintro ⟨⟨m, plant, there⟩, w, pw, cw⟩ fr G ⟨g10, g16, g17, g18, g19, g20, g21, hm1, hC5, hO5, ht0, ht1, htot, hwl⟩ hN
  simp only at g18 g19 g20 g21 hm1 hO5 ht0 ht1 htot hwl
  rw [Ret_code l30_2.eq_1]
  refine Ret_pad ?_
  match m, hm1, htot, hwl, g21, hN with
  | 0, hm1, htot, hwl, g21, hN =>
    have this : ¬ (0 : Int) ≤ -1 := by decide
    replace g21 : fr 21 = .int .i64 (-1) := g21
    simp only [goW, List.map_nil, List.append_nil] at htot
    subst htot
    simp only [n30, r30, g10, g16, g17, g18, g19, g20, g21, eq_false this, SB, Nat.reduceLT, callee, aOp, ne_eq, Nat.reduceEqDiff, aBin, aUn, if_true, if_false, reduceCtorEq, frame0, place, notTuple, Nat.reduceAdd, Nat.reduceLeDiff, resVal, dite_true, dite_false, Int.reduceEq, Int.reduceLT, Int.reduceLE]
    rw [List.length_map]
    exact hok _ v _ pw cw he ((hE4.chg.trans hC5).app) hv0 hv hbest (by rw [hbl]; omega) ((hO5.le (by omega)).app _)
  | m + 1, hm1, htot, hwl, g21, hN =>
    have e1 : ((m + 1 : Nat) : Int) - 1 = (m : Int) := by omega
    rw [e1] at g21
    have hmm : (0 : Int) ≤ (m : Int) := by omega
    have hlm : m < Ts.length := by rw [hlen3]; omega
    have wm : IntKind.i64.wrap ((m : Int) - 1) = (m : Int) - 1 := wrap_id (by omega) (by omega)
    simp only [n30, r30, g10, g16, g17, g18, g19, g20, g21, eq_true hmm, SB, Nat.reduceLT, callee, aOp, ne_eq, Nat.reduceEqDiff, aBin, aUn, if_true, if_false, reduceCtorEq, frame0, place, notTuple, Nat.reduceAdd, Nat.reduceLeDiff, resVal, dite_true, dite_false, Int.reduceEq, Int.reduceLT, Int.reduceLE]
    refine way_inner (c16 := cap3) (cs := cap4) (H := H4) (S := S) (L := L) (left := m) (Ts := Ts) (w := w) (q := q4) (plant := plant) (there := there) hno (fun l hl => (hmem l).1 hl) (by omega) hm4 (by omega) (hC5.app) hS4 hS4T hTok hlm (by rw [hlen3]; omega) ⟨ht0, ht1⟩ (hO5.app _) (by omega) (by simp only [g10, FB, Nat.reduceEqDiff]) (by simp only [g16, FB, Nat.reduceEqDiff]) (by simp only [g18, FB, Nat.reduceEqDiff]) (by simp only [g19, FB, Nat.reduceEqDiff]) (by simp only [g20, FB, Nat.reduceEqDiff]) (by simp only [g21, FB, Nat.reduceEqDiff]) (by simp only [g17, FB, Nat.reduceEqDiff]) (by simp only [FB, Nat.reduceEqDiff]) (by simp only [FB, Nat.reduceEqDiff]) fun fr' G' pw' cw' hC6 k10 k16 k17 k21 hres => ?_
    have k17' : fr' 17 = .slice q4 S.length cap4 := k17.trans (by simp only [g17, FB, Nat.reduceEqDiff])
    have hgm := hgt3 m (by omega)
    cases hpk : pickW (posN P) S (gt Ts m) plant there with
    | none =>
      obtain ⟨r18, r19, r20, rO⟩ := hres w plant there (by rw [hpk]; exact ⟨rfl, rfl, rfl⟩)
      rw [hgm] at hpk
      simp only [goW, hpk] at htot
      simp only [n30, r30, k10, k16, k17', k21, r18, r19, r20, wm, SB, Nat.reduceLT, callee, aOp, ne_eq, Nat.reduceEqDiff, aBin, aUn, if_true, if_false, reduceCtorEq, frame0, place, notTuple, Nat.reduceAdd, Nat.reduceLeDiff, resVal, dite_true, dite_false, Int.reduceEq, Int.reduceLT, Int.reduceLE]
      exact hN ((m, plant, there), w, pw', cw') _ _ ⟨(by simp only [k10, FB, Nat.reduceEqDiff]), (by simp only [k16, FB, Nat.reduceEqDiff]), (by simp only [k17', FB, Nat.reduceEqDiff]), (by simp only [r18, FB, Nat.reduceEqDiff]), (by simp only [r19, FB, Nat.reduceEqDiff]), (by simp only [r20, FB, Nat.reduceEqDiff]), (by simp only [FB, Nat.reduceEqDiff]), by show m ≤ k; omega, hC6.app, rO.app _, ht0, ht1, htot, by show w.length + m ≤ k; omega⟩ (by show m < m + 1; omega)
    | some r =>
      obtain ⟨l, a⟩ := r
      obtain ⟨r18, r19, r20, rO⟩ := hres (w ++ [stopOf (l, a)]) l.dst (a + l.mins) (by rw [hpk]; exact ⟨rfl, rfl, rfl⟩)
      obtain ⟨hin, hnx⟩ := pickW_in hpk
      obtain ⟨n1, n2, n3⟩ := nextD_arr (hno.fine l ((hmem l).1 hin)) hnx
      have hfl := hno.fine l ((hmem l).1 hin)
      unfold Fine at hfl
      rw [hgm] at hpk
      simp only [goW, hpk, List.map_cons] at htot
      simp only [n30, r30, k10, k16, k17', k21, r18, r19, r20, wm, SB, Nat.reduceLT, callee, aOp, ne_eq, Nat.reduceEqDiff, aBin, aUn, if_true, if_false, reduceCtorEq, frame0, place, notTuple, Nat.reduceAdd, Nat.reduceLeDiff, resVal, dite_true, dite_false, Int.reduceEq, Int.reduceLT, Int.reduceLE]
      exact hN ((m, l.dst, a + l.mins), w ++ [stopOf (l, a)], pw', cw') _ _ ⟨(by simp only [k10, FB, Nat.reduceEqDiff]), (by simp only [k16, FB, Nat.reduceEqDiff]), (by simp only [k17', FB, Nat.reduceEqDiff]), (by simp only [r18, FB, Nat.reduceEqDiff]), (by simp only [r19, FB, Nat.reduceEqDiff]), (by simp only [r20, FB, Nat.reduceEqDiff]), (by simp only [FB, Nat.reduceEqDiff]), by show m ≤ k; omega, hC6.app, rO.app _, by show 0 ≤ a + l.mins; omega, n3, by rw [List.append_assoc]; exact htot, by show (w ++ [stopOf (l, a)]).length + m ≤ k; rw [List.length_append]; simp only [List.length_cons, List.length_nil]; omega⟩ (by show m < m + 1; omega)
def Grow {α : Type} (lim : Nat) (G : Heap) (enc : α → List Value) (e : Nat) (p : Option Addr) (cap : Nat) (l : List α) : Prop := Own lim G enc e p cap l ∨ (cap = l.length ∧ Sl G enc e p l ∧ l ≠ [])
theorem Grow.app {α : Type} {lim : Nat} {G : Heap} {enc : α → List Value} {e : Nat} {p : Option Addr} {cap : Nat} {l : List α} (h : Grow lim G enc e p cap l) (X : Heap) : Grow lim (G ++ X) enc e p cap l := by
  rcases h with h | ⟨h1, h2, h3⟩
  · exact .inl (h.app X)
  · exact .inr ⟨h1, h2.app X, h3⟩
theorem Grow.sl {α : Type} {lim : Nat} {G : Heap} {enc : α → List Value} {e : Nat} {p : Option Addr} {cap : Nat} {l : List α} (h : Grow lim G enc e p cap l) (he : ∀ x, (enc x).length = e) : Sl G enc e p l := by
  rcases h with h | ⟨_, h, _⟩
  · exact h.sl he
  · exact h
theorem Grow.moreF {α : Type} {lim lim' e bytes cap : Nat} {G : Heap} {enc : α → List Value} {p : Option Addr} {l : List α} (h : Grow lim G enc e p cap l) (hll : lim' ≤ lim) (he : ∀ x, (enc x).length = e) (he0 : e ≠ 0) (m : List α) (hm : m ≠ []) (hb : (l.length + m.length) * bytes ≤ maxBytes) (hn : l.length + m.length < 2 ^ 61)
    (X : Heap) {x : Value} {str : Bool} (h1 : firstCells (G ++ X) e str x = some (m.flatMap enc)) (h2 : lenOf x = some m.length) :
    ∃ G2, aAppend lim' none e bytes str (.slice p l.length cap) x (G ++ X) = some (.slice (some ⟨(G ++ X).length, 0, none⟩) (l.length + m.length) (loose e), G2 ++ []) ∧ Own G.length G2 enc e (some ⟨(G ++ X).length, 0, none⟩) (loose e) (l ++ m) ∧ (∀ A H0, Chg A H0 G → H0.length ≤ lim → Chg A H0 G2) ∧ (G ++ X).length < G2.length := by
  rcases h with h | ⟨k1, k2, k3⟩
  · obtain ⟨G2, e1, e2, e3, e4⟩ := Own.moreF h hll he he0 m hm hb hn X h1 h2
    refine ⟨G2, e1, e2, fun A H0 hC hl => hC.trans' e3 fun j hj hjl => ?_, e4⟩
    cases hp : p with
    | none => rw [hp] at hj; cases hj
    | some a => rw [hp] at hj; have := h.block hp; simp [opB] at hj; omega
  · obtain ⟨a, rfl⟩ := k2.some k3
    have hm0 : ¬ m.length = 0 := fun q => hm (List.length_eq_zero_iff.1 q)
    obtain ⟨a', ha', hold⟩ := (k2.app X).cells k3
    cases ha'
    refine ⟨G ++ (X ++ [.cells false ((l ++ m).flatMap enc)]), ?_, ?_, fun A H0 hC _ => hC.app, by simp⟩
    · subst k1
      simp only [aAppend, h1, h2, hold, hm0, if_false]
      rw [if_neg (by omega), if_neg (by unfold loose; omega), if_pos (by omega), if_neg (by omega)]
      simp [place, List.append_assoc]
    · refine Own.new ?_ (by simp)
      rw [← List.append_assoc]; exact hget_new0
theorem ids_injC {L : List Leg} (h : L.Pairwise (fun a b => a.id ≠ b.id)) : ∀ a ∈ L, ∀ b ∈ L, a.id = b.id → a = b := by
  intro a ha b hb e
  obtain ⟨i, hi, rfl⟩ := List.mem_iff_getElem.1 ha
  obtain ⟨j, hj, rfl⟩ := List.mem_iff_getElem.1 hb
  rw [List.pairwise_iff_getElem] at h
  rcases Nat.lt_trichotomy i j with h1 | h1 | h1
  · exact absurd e (h i j hi hj h1)
  · subst h1; rfl
  · exact absurd e.symm (h j i hj hi h1)
theorem find_id {L : List Leg} (hid : L.Pairwise (fun a b => a.id ≠ b.id)) {l : Leg} (hl : l ∈ L) : L.find? (fun x => x.id = l.id) = some l := by
  cases h : L.find? (fun x => x.id = l.id) with
  | none => have := List.find?_eq_none.1 h l hl; simp at this
  | some m =>
    have h1 := List.find?_some h
    have h2 := List.mem_of_find?_eq_some h
    simp at h1
    rw [ids_injC hid m h2 l hl h1]
theorem clean_loop [OB] {lim RN cl cd : Nat} {pp pl pw pd : Option Addr} {cw : Nat} {L : List Leg} {w : List (Leg × Int)} {ds : List Int} {a q v : Int} {G : Heap} {fr : Nat → Value} {K : List AItem} {Z : Value → Heap → Prop} (hN : NetIn G pp pl P5 L) (kN : hget G RN = .cells false (netV pp 5 5 pl L.length cl)) (hval : validN P5 L = 0)
    (hw : Sl G enc3 3 pw (w.map stopOf)) (hwl : w.length < 10) (hd : Sl G encU 1 pd ds) (hdl : ds.length < 2 ^ 63) (hds : ∀ x ∈ ds, 0 ≤ x ∧ x ≤ 255) (hway : IsWay L a 14400 w q v) (hv : v ≤ 100800) (hlim : lim ≤ G.length)
    (f3 : fr 3 = .slice pd ds.length cd) (f11 : fr 11 = .pointer (some ⟨RN, 0, none⟩)) (f14 : fr 14 = .slice pw w.length cw) (f16 : fr 16 = .slice (some ⟨G.length, 0, none⟩) 1 1) (f61 : fr 61 = .slice pw w.length cw) (f62 : fr 62 = .int .i64 (w.length : Int)) (f63 : fr 63 = .int .i64 0)
    (hR : ∀ fr' G' q' cq, Chg [] G G' → Grow G.length G' encE 7 q' cq (cleanN a 14400 ds w w.length) → fr' 16 = .slice q' (w.length + 1) cq → (∀ j, j ≤ 15 → fr' j = fr j) → Ret E a16 lim K fr' G' Z) :
    Ret E a16 lim (.code (.loop l16_3) :: .inBlock 0 :: K) fr (G ++ [.cells false (encE (seenE a 14400))]) Z := by
  refine Ret_rounds (fun s : Nat × Option Addr × Nat => w.length - s.1) (fun s fr' G' => s.1 ≤ w.length ∧ Chg [] G G' ∧ Grow G.length G' encE 7 s.2.1 s.2.2 (cleanN a 14400 ds w s.1) ∧ fr' 16 = .slice s.2.1 (s.1 + 1) s.2.2 ∧ fr' 61 = .slice pw w.length cw ∧ fr' 62 = .int .i64 (w.length : Int) ∧ fr' 63 = .int .i64 (s.1 : Int) ∧ (∀ j, j ≤ 15 → fr' j = fr j)) (0, some ⟨G.length, 0, none⟩, 1)
    ⟨Nat.zero_le _, Chg.refl.app, .inr ⟨rfl, Sl.row encE_len (by rw [hget_new0]; rfl), by simp [cleanN]⟩, f16, f61, f62, by rw [f63]; rfl, fun _ _ => rfl⟩ ?_
  rintro ⟨i, q', cq⟩ fr' G' ⟨hi, hC, hO, g16, g61, g62, g63, hfr⟩ hN'
  simp only at hi hO g16 g63
  rw [Ret_code l16_3.eq_1]
  refine Ret_pad ?_
  have g3 := (hfr 3 (by decide)).trans f3
  have g11 := (hfr 11 (by decide)).trans f11
  have g14 := (hfr 14 (by decide)).trans f14
  by_cases hlt : i < w.length
  case neg =>
    obtain rfl : i = w.length := by omega
    simp only [n16, r16, g16, g61, g62, g63, hlt, SB, Nat.reduceLT, callee, aOp, ne_eq, Nat.reduceEqDiff, aBin, aUn, if_true, if_false, reduceCtorEq, frame0, place, notTuple, Nat.reduceAdd, Nat.reduceLeDiff, resVal, dite_true, dite_false, Int.reduceEq, Int.reduceLT, Int.reduceLE]
    exact hR _ _ _ _ hC.app (hO.app _) (by simp only [g16, FB, Nat.reduceEqDiff]) fun j hj => by
      rw [← hfr j hj]
      simp only [upd]
      repeat rw [if_neg (by omega)]
  have hn := valid_net hval
  have hidL := legs_ids (validN_0 hval).2.2.2
  have hat := isWay_at hway
  have hds0 : ∀ x ∈ ds, 0 ≤ x := fun x hx => (hds x hx).1
  have htm := fun k (hk : k < w.length) => way_times hn.fine hway (by decide) hds0 k hk
  have hml : (w.map stopOf).length = w.length := by simp
  have hNG := hN.sim (G := G') fun b ro c hb => hC.cells hb (by simp)
  have kNX := fun X => (Ext.refl.app (X := X)).cells (hC.cells kN (by simp))
  have sW := hC.sl hw (by simp)
  have sD := hC.sl hd (by simp)
  have hlG := hC.len
  have ldw := fun X => (sW.app X).loadCells enc3_len (i := i) (by omega)
  rw [gt_map hlt] at ldw
  have ixw := fun c (k : IntKind) (H1 : Heap) => sW.idx (c := c) (k := k) (H1 := H1) (i := i) (by omega)
  rw [hml] at ixw
  have fnd : ∀ k, k < w.length → ∀ X (mp : Bool) (lim : Nat) (Q : Value → Heap → Prop), CallR E mp lim 35 [.agg (netV pp 5 5 pl L.length cl).toArray, .int .i64 (gt w k).1.id] (G' ++ X) Q = Q (.tuple #[.agg (encL (gt w k).1).toArray, .bool true]) (G' ++ X) := fun k hk X mp lim Q => by
    have := find_ok (mp := mp) (lim := lim) (cp := 5) (cl := cl) (a := (gt w k).1.id) (Q := Q) (hNG.app X)
    rw [find_id hidL (hat k hk).1] at this
    exact this
  have fi := fnd i hlt
  have hs3 : ∀ k, enc3 (stopOf (gt w k)) = [.int .i64 (gt w k).1.id, .int .i64 (gt w k).2, .int .i64 (arrW w k)] := fun _ => rfl
  rw [hs3] at ldw
  have hti := htm i hlt
  have wi : IntKind.i64.wrap ((i : Int) + 1) = ((i + 1 : Nat) : Int) := wrap_nat (by omega)
  have hlimG : lim ≤ G'.length := by omega
  have hcl := cleanN_len (p := a) (ready := 14400) (ds := ds) (w := w) (n := i)
  have app : ∀ (X : Heap) (b : Nat) (x : Ev), hget (G' ++ X) b = .cells false (encE x) → ∃ G2, aAppend lim none 7 56 false (.slice q' (i + 1) cq) (.slice (some ⟨b, 0, none⟩) 1 1) (G' ++ X) = some (.slice (some ⟨(G' ++ X).length, 0, none⟩) (i + 1 + 1) (loose 7), G2 ++ []) ∧ Own G'.length G2 encE 7 (some ⟨(G' ++ X).length, 0, none⟩) (loose 7) (cleanN a 14400 ds w i ++ [x]) ∧ Chg [] G G2 := fun X b x hb => by
    obtain ⟨G2, e1, e2, e3, _⟩ := Grow.moreF hO (lim' := lim) (bytes := 56) hlim encE_len (by decide) [x] (by simp) (by rw [hcl]; unfold maxBytes; simp; omega) (by rw [hcl]; simp; omega) X (x := .slice (some ⟨b, 0, none⟩) 1 1) (str := false) (first_slice (m := [x]) (Sl.row (ro := false) encE_len (by rw [hb]; simp))) rfl
    rw [hcl] at e1
    exact ⟨G2, e1, e2, e3 [] G hC (Nat.le_refl _)⟩
  by_cases hlt1 : i + 1 < w.length
  case neg =>
    have hev : evC ds w i = seenE (gt w i).1.dst (arrW w i) := by unfold evC timeC; rw [if_neg (fun h => hlt1 h.1)]
    have hlt1' : ¬ ((i + 1 : Nat) : Int) < (w.length : Int) := by omega
    obtain ⟨G2, e1, e2, e3⟩ := app [.cells false [.int .i64 (gt w i).1.id, .int .i64 (gt w i).2, .int .i64 (arrW w i)], .cells false (encL (gt w i).1), .cells false [.int .i64 7, .int .i64 (gt w i).1.dst, .int .i64 1, .int .u8 2, .int .i64 (arrW w i), .int .i64 (arrW w i), .int .i64 (arrW w i)]] (G'.length + 2) (seenE (gt w i).1.dst (arrW w i)) (by rw [hget_new]; rfl)
    rw [← hev, ← cleanN_succ] at e2
    generalize (G' ++ [Blk.cells false [.int .i64 (gt w i).1.id, .int .i64 (gt w i).2, .int .i64 (arrW w i)], Blk.cells false (encL (gt w i).1), Blk.cells false [.int .i64 7, .int .i64 (gt w i).1.dst, .int .i64 1, .int .u8 2, .int .i64 (arrW w i), .int .i64 (arrW w i), .int .i64 (arrW w i)]]).length = r at e1 e2
    simp only [n16, r16, g3, g11, g14, g16, g61, g62, g63, hlt, ldw, ixw, kNX, fi, wi, netV_len, netV_0, netV_1, encL_len, encL_0, encL_1, encL_2, encL_3, encL_4, encL_5, encL_6, encL_7, take_all, setAll_full, hlimG, seen_ok, eq_false hlt1', eq_false hlt1, e1, SB, Nat.reduceLT, callee, aOp, ne_eq, Nat.reduceEqDiff, aBin, aUn, if_true, if_false, reduceCtorEq, frame0, place, notTuple, Nat.reduceAdd, Nat.reduceLeDiff, resVal, dite_true, dite_false, Int.reduceEq, Int.reduceLT, Int.reduceLE]
    exact hN' (i + 1, some ⟨r, 0, none⟩, loose 7) _ _ ⟨by show i + 1 ≤ w.length; omega, e3.app, .inl ((e2.le (by omega)).app _), (by simp only [FB, Nat.reduceEqDiff]), (by simp only [g61, FB, Nat.reduceEqDiff]), (by simp only [g62, FB, Nat.reduceEqDiff]), by rfl, fun j hj => by
      rw [← hfr j hj]
      simp only [upd]
      repeat rw [if_neg (by omega)]⟩ (by show w.length - (i + 1) < w.length - i; omega)
  have ldw1 := fun X => (sW.app X).loadCell enc3_len (i := i + 1) (j := 0) (by omega) (by decide)
  have ldw2 := fun X => (sW.app X).loadCell enc3_len (i := i + 1) (j := 1) (by omega) (by decide)
  rw [gt_map hlt1, hs3] at ldw1 ldw2
  simp only [List.getElem?_cons_zero, List.getElem?_cons_succ] at ldw1 ldw2
  have ixw1 := fun c (k : IntKind) (H1 : Heap) => sW.idx (c := c) (k := k) (H1 := H1) (i := i + 1) (by omega)
  rw [hml] at ixw1
  have fi1 := fnd (i + 1) hlt1
  have hlt1' : ((i + 1 : Nat) : Int) < (w.length : Int) := by omega
  have hti1 := htm (i + 1) hlt1
  have wl : IntKind.i64.wrap ((gt w (i + 1)).2 - (gt w (i + 1)).1.cut) = lastC w i := by
    have : (gt w (i + 1)).2 - (gt w (i + 1)).1.cut = lastC w i := rfl
    rw [this]
    exact wrap_id (by have := hti.2.2.1 hlt1; omega) (by have := hti.2.2.1 hlt1; omega)
  by_cases hd0 : 0 < ds.length
  case neg =>
    have hev : evC ds w i = seenE (gt w i).1.dst (arrW w i) := by unfold evC timeC; rw [if_neg (fun h => hd0 h.2.1)]
    obtain ⟨G2, e1, e2, e3⟩ := app [.cells false [.int .i64 (gt w i).1.id, .int .i64 (gt w i).2, .int .i64 (arrW w i)], .cells false (encL (gt w i).1), .cells false (encL (gt w (i + 1)).1), .cells false [.int .i64 7, .int .i64 (gt w i).1.dst, .int .i64 1, .int .u8 2, .int .i64 (arrW w i), .int .i64 (arrW w i), .int .i64 (arrW w i)]] (G'.length + 3) (seenE (gt w i).1.dst (arrW w i)) (by rw [hget_new]; rfl)
    rw [← hev, ← cleanN_succ] at e2
    generalize (G' ++ [Blk.cells false [.int .i64 (gt w i).1.id, .int .i64 (gt w i).2, .int .i64 (arrW w i)], Blk.cells false (encL (gt w i).1), Blk.cells false (encL (gt w (i + 1)).1), Blk.cells false [.int .i64 7, .int .i64 (gt w i).1.dst, .int .i64 1, .int .u8 2, .int .i64 (arrW w i), .int .i64 (arrW w i), .int .i64 (arrW w i)]]).length = r at e1 e2
    simp only [n16, r16, g3, g11, g14, g16, g61, g62, g63, hlt, ldw, ixw, kNX, fi, wi, netV_len, netV_0, netV_1, encL_len, encL_0, encL_1, encL_2, encL_3, encL_4, encL_5, encL_6, encL_7, take_all, setAll_full, hlimG, seen_ok, eq_true hlt1', eq_true hlt1, ldw1, ldw2, ixw1, fi1, wl, eq_false hd0, e1, SB, Nat.reduceLT, callee, aOp, ne_eq, Nat.reduceEqDiff, aBin, aUn, if_true, if_false, reduceCtorEq, frame0, place, notTuple, Nat.reduceAdd, Nat.reduceLeDiff, resVal, dite_true, dite_false, Int.reduceEq, Int.reduceLT, Int.reduceLE]
    exact hN' (i + 1, some ⟨r, 0, none⟩, loose 7) _ _ ⟨by show i + 1 ≤ w.length; omega, e3.app, .inl ((e2.le (by omega)).app _), (by simp only [FB, Nat.reduceEqDiff]), (by simp only [g61, FB, Nat.reduceEqDiff]), (by simp only [g62, FB, Nat.reduceEqDiff]), by rfl, fun j hj => by
      rw [← hfr j hj]
      simp only [upd]
      repeat rw [if_neg (by omega)]⟩ (by show w.length - (i + 1) < w.length - i; omega)
  by_cases hlast : arrW w i < lastC w i
  case neg =>
    have hev : evC ds w i = seenE (gt w i).1.dst (arrW w i) := by unfold evC timeC; rw [if_neg (fun h => hlast h.2.2)]
    obtain ⟨G2, e1, e2, e3⟩ := app [.cells false [.int .i64 (gt w i).1.id, .int .i64 (gt w i).2, .int .i64 (arrW w i)], .cells false (encL (gt w i).1), .cells false (encL (gt w (i + 1)).1), .cells false [.int .i64 7, .int .i64 (gt w i).1.dst, .int .i64 1, .int .u8 2, .int .i64 (arrW w i), .int .i64 (arrW w i), .int .i64 (arrW w i)]] (G'.length + 3) (seenE (gt w i).1.dst (arrW w i)) (by rw [hget_new]; rfl)
    rw [← hev, ← cleanN_succ] at e2
    generalize (G' ++ [Blk.cells false [.int .i64 (gt w i).1.id, .int .i64 (gt w i).2, .int .i64 (arrW w i)], Blk.cells false (encL (gt w i).1), Blk.cells false (encL (gt w (i + 1)).1), Blk.cells false [.int .i64 7, .int .i64 (gt w i).1.dst, .int .i64 1, .int .u8 2, .int .i64 (arrW w i), .int .i64 (arrW w i), .int .i64 (arrW w i)]]).length = r at e1 e2
    simp only [n16, r16, g3, g11, g14, g16, g61, g62, g63, hlt, ldw, ixw, kNX, fi, wi, netV_len, netV_0, netV_1, encL_len, encL_0, encL_1, encL_2, encL_3, encL_4, encL_5, encL_6, encL_7, take_all, setAll_full, hlimG, seen_ok, eq_true hlt1', eq_true hlt1, ldw1, ldw2, ixw1, fi1, wl, eq_true hd0, eq_false hlast, e1, SB, Nat.reduceLT, callee, aOp, ne_eq, Nat.reduceEqDiff, aBin, aUn, if_true, if_false, reduceCtorEq, frame0, place, notTuple, Nat.reduceAdd, Nat.reduceLeDiff, resVal, dite_true, dite_false, Int.reduceEq, Int.reduceLT, Int.reduceLE]
    exact hN' (i + 1, some ⟨r, 0, none⟩, loose 7) _ _ ⟨by show i + 1 ≤ w.length; omega, e3.app, .inl ((e2.le (by omega)).app _), (by simp only [FB, Nat.reduceEqDiff]), (by simp only [g61, FB, Nat.reduceEqDiff]), (by simp only [g62, FB, Nat.reduceEqDiff]), by rfl, fun j hj => by
      rw [← hfr j hj]
      simp only [upd]
      repeat rw [if_neg (by omega)]⟩ (by show w.length - (i + 1) < w.length - i; omega)
  have hm : i % ds.length < ds.length := Nat.mod_lt _ hd0
  have hev : evC ds w i = seenE (gt w i).1.dst (min (arrW w i + gt ds (i % ds.length)) (lastC w i)) := by unfold evC timeC; rw [if_pos ⟨hlt1, hd0, hlast⟩]
  have hdx := hds _ (gt_mem hm)
  have ldd := fun X => (sD.app X).loadCell0 encU_len hm (by decide)
  simp only [encU, List.getElem?_cons_zero] at ldd
  have ixd := fun c (k : IntKind) (H1 : Heap) => sD.idx (c := c) (k := k) (H1 := H1) hm
  have rm : ((i : Int).tmod (ds.length : Int)) = ((i % ds.length : Nat) : Int) := rfl
  have wm : IntKind.i64.wrap ((i % ds.length : Nat) : Int) = ((i % ds.length : Nat) : Int) := wrap_id (by omega) (by omega)
  have wc : IntKind.i64.wrap (gt ds (i % ds.length)) = gt ds (i % ds.length) := wrap_id (by omega) (by omega)
  have wa : IntKind.i64.wrap (arrW w i + gt ds (i % ds.length)) = arrW w i + gt ds (i % ds.length) := wrap_id (by omega) (by omega)
  obtain ⟨G2, e1, e2, e3⟩ := app [.cells false [.int .i64 (gt w i).1.id, .int .i64 (gt w i).2, .int .i64 (arrW w i)], .cells false (encL (gt w i).1), .cells false (encL (gt w (i + 1)).1), .cells false [.int .i64 7, .int .i64 (gt w i).1.dst, .int .i64 1, .int .u8 2, .int .i64 (min (arrW w i + gt ds (i % ds.length)) (lastC w i)), .int .i64 (min (arrW w i + gt ds (i % ds.length)) (lastC w i)), .int .i64 (min (arrW w i + gt ds (i % ds.length)) (lastC w i))]] (G'.length + 3) (seenE (gt w i).1.dst (min (arrW w i + gt ds (i % ds.length)) (lastC w i))) (by rw [hget_new]; rfl)
  rw [← hev, ← cleanN_succ] at e2
  generalize (G' ++ [Blk.cells false [.int .i64 (gt w i).1.id, .int .i64 (gt w i).2, .int .i64 (arrW w i)], Blk.cells false (encL (gt w i).1), Blk.cells false (encL (gt w (i + 1)).1), Blk.cells false [.int .i64 7, .int .i64 (gt w i).1.dst, .int .i64 1, .int .u8 2, .int .i64 (min (arrW w i + gt ds (i % ds.length)) (lastC w i)), .int .i64 (min (arrW w i + gt ds (i % ds.length)) (lastC w i)), .int .i64 (min (arrW w i + gt ds (i % ds.length)) (lastC w i))]]).length = r at e1 e2
  simp only [n16, r16, g3, g11, g14, g16, g61, g62, g63, hlt, ldw, ixw, kNX, fi, wi, netV_len, netV_0, netV_1, encL_len, encL_0, encL_1, encL_2, encL_3, encL_4, encL_5, encL_6, encL_7, take_all, setAll_full, hlimG, seen_ok, eq_true hlt1', eq_true hlt1, ldw1, ldw2, ixw1, fi1, wl, eq_true hd0, eq_true hlast, ldd, ixd, rm, wm, wc, wa, min_v, eq_false (show ¬ (ds.length : Int) = 0 by omega), e1, SB, Nat.reduceLT, callee, aOp, ne_eq, Nat.reduceEqDiff, aBin, aUn, if_true, if_false, reduceCtorEq, frame0, place, notTuple, Nat.reduceAdd, Nat.reduceLeDiff, resVal, dite_true, dite_false, Int.reduceEq, Int.reduceLT, Int.reduceLE]
  exact hN' (i + 1, some ⟨r, 0, none⟩, loose 7) _ _ ⟨by show i + 1 ≤ w.length; omega, e3.app, .inl ((e2.le (by omega)).app _), (by simp only [FB, Nat.reduceEqDiff]), (by simp only [g61, FB, Nat.reduceEqDiff]), (by simp only [g62, FB, Nat.reduceEqDiff]), by rfl, fun j hj => by
    rw [← hfr j hj]
    simp only [upd]
    repeat rw [if_neg (by omega)]⟩ (by show w.length - (i + 1) < w.length - i; omega)
theorem append_full {α : Type} {lim d e bytes c : Nat} {H : Heap} {enc : α → List Value} {a : Addr} {p : Option Addr} {l m : List α} (hl : AM.loadCells H a (l.length * e) = some (l.flatMap enc)) (hs : Sl H enc e p m) (he0 : e ≠ 0) (hm : m ≠ []) (hb : (l.length + m.length) * bytes ≤ maxBytes) (hn : l.length + m.length < 2 ^ 61) :
    aAppend lim (some d) e bytes false (.slice (some a) l.length l.length) (.slice p m.length c) H = some (.slice (some ⟨d, 0, none⟩) (l.length + m.length) (loose e), H.set d (.cells false ((l ++ m).flatMap enc))) := by
  have hm0 : ¬ m.length = 0 := fun q => hm (List.length_eq_zero_iff.1 q)
  have h1 : firstCells H e false (.slice p m.length c) = some (m.flatMap enc) := first_slice hs
  simp only [aAppend, h1, hl, lenOf, hm0, if_false]
  rw [if_neg (by omega), if_neg (by unfold loose; omega), if_pos (by omega), if_neg (by omega)]
  simp [place]
theorem pos_loop [OB] {lim b30 R : Nat} {es : List Ev} {x : Ev} {G : Heap} {fr : Nat → Value} {K : List AItem} {Z : Value → Heap → Prop} (hs : Sl G encE 7 (some ⟨R, 0, none⟩) es) (hel : es.length < 2 ^ 60) (h30 : hget G b30 = .cells false (encE x))
    (f28 : fr 28 = .slice (some ⟨R, 0, none⟩) es.length (loose 7)) (f30 : fr 30 = .pointer (some ⟨b30, 0, none⟩)) (f31 : fr 31 = .int .i64 (es.length : Int))
    (hR : ∀ fr' G', Ext G G' → fr' 31 = .int .i64 (posI es x es.length : Int) → (∀ j, j ≤ 30 → fr' j = fr j) → (∀ j, 160 ≤ j → j ≤ 162 → fr' j = fr j) → Ret E a16 lim K fr' G' Z) :
    Ret E a16 lim (.code (.loop l16_1) :: .inBlock 4 :: K) fr G Z := by
  refine Ret_rounds (fun i => i) (fun i fr' G' => i ≤ es.length ∧ Ext G G' ∧ fr' 31 = .int .i64 (i : Int) ∧ posI es x i = posI es x es.length ∧ (∀ j, j ≤ 30 → fr' j = fr j) ∧ (∀ j, 160 ≤ j → j ≤ 162 → fr' j = fr j)) es.length
    ⟨Nat.le_refl _, Ext.refl, f31, rfl, fun _ _ => rfl, fun _ _ _ => rfl⟩ ?_
  intro i fr' G' ⟨hi, hE, g31, hp, hfr, hfr2⟩ hN
  rw [Ret_code l16_1.eq_1]
  refine Ret_pad ?_
  have g28 := (hfr 28 (by decide)).trans f28
  have g30 := (hfr 30 (by decide)).trans f30
  have h30X := fun X => (Ext.refl.app (X := X)).cells (hE.cells h30)
  cases i with
  | zero =>
    have z : ((0 : Nat) : Int) = 0 := rfl
    rw [z] at g31
    simp only [n16, r16, g28, g30, g31, SB, Nat.reduceLT, callee, aOp, ne_eq, Nat.reduceEqDiff, aBin, aUn, if_true, if_false, reduceCtorEq, frame0, place, notTuple, Nat.reduceAdd, Nat.reduceLeDiff, resVal, dite_true, dite_false, Int.reduceEq, Int.reduceLT, Int.reduceLE]
    exact hR _ _ hE.app (by rw [← hp]; exact g31) (fun j hj => by rw [← hfr j hj]; simp only [upd]; repeat rw [if_neg (by omega)]) (fun j hj hj2 => by rw [← hfr2 j hj hj2]; simp only [upd]; repeat rw [if_neg (by omega)])
  | succ k =>
    have ld := fun X => ((hE.sl hs).app X).loadCell encE_len (i := k) (j := 6) (by omega) (by decide)
    rw [encE_6] at ld
    have ix := fun c (kk : IntKind) (H1 : Heap) => (hE.sl hs).idx (c := c) (k := kk) (H1 := H1) (i := k) (by omega)
    have wk : IntKind.i64.wrap (((k + 1 : Nat) : Int) - 1) = (k : Int) := by rw [wrap_id (by omega) (by omega)]; omega
    rw [posI] at hp
    have p0 := eq_true (show (0 : Int) < ((k + 1 : Nat) : Int) by omega)
    have p1 := eq_true (show 0 < k + 1 by omega)
    by_cases hlt : x.time < (gt es k).time
    · rw [if_pos hlt] at hp
      simp only [n16, r16, g28, g30, g31, p0, p1, ld, ix, wk, h30X, encE_len, encE_0, encE_1, encE_2, encE_3, encE_4, encE_5, encE_6, eq_true hlt, SB, Nat.reduceLT, callee, aOp, ne_eq, Nat.reduceEqDiff, aBin, aUn, if_true, if_false, reduceCtorEq, frame0, place, notTuple, Nat.reduceAdd, Nat.reduceLeDiff, resVal, dite_true, dite_false, Int.reduceEq, Int.reduceLT, Int.reduceLE]
      exact hN k _ _ ⟨by omega, hE.app, by rfl, hp, (fun j hj => by rw [← hfr j hj]; simp only [upd]; repeat rw [if_neg (by omega)]), (fun j hj hj2 => by rw [← hfr2 j hj hj2]; simp only [upd]; repeat rw [if_neg (by omega)])⟩ (by omega)
    · rw [if_neg hlt] at hp
      simp only [n16, r16, g28, g30, g31, p0, p1, ld, ix, wk, h30X, encE_len, encE_0, encE_1, encE_2, encE_3, encE_4, encE_5, encE_6, eq_false hlt, SB, Nat.reduceLT, callee, aOp, ne_eq, Nat.reduceEqDiff, aBin, aUn, if_true, if_false, reduceCtorEq, frame0, place, notTuple, Nat.reduceAdd, Nat.reduceLeDiff, resVal, dite_true, dite_false, Int.reduceEq, Int.reduceLT, Int.reduceLE]
      exact hR _ _ hE.app (by rw [← hp]; exact (by simp only [g31, FB, Nat.reduceEqDiff])) (fun j hj => by rw [← hfr j hj]; simp only [upd]; repeat rw [if_neg (by omega)]) (fun j hj hj2 => by rw [← hfr2 j hj hj2]; simp only [upd]; repeat rw [if_neg (by omega)])
theorem stray_loop [OB] {lim ck : Nat} {q2 : Option Addr} {es : List Ev} {ls : List Lk} {m : Nat} {R : Nat} {G : Heap} {fr : Nat → Value} {K : List AItem} {Z : Value → Heap → Prop}
    (hs : Sl G encE 7 q2 (seenN ls m)) (hm : m ≤ 3) (hes : hget G R = .cells false (es.flatMap encE)) (hel : es.length < 20) (hlim : lim ≤ G.length)
    (f28 : fr 28 = .slice (some ⟨R, 0, none⟩) es.length (loose 7)) (f160 : fr 160 = .slice q2 m ck) (f161 : fr 161 = .int .i64 (m : Int)) (f162 : fr 162 = .int .i64 0)
    (hR : ∀ fr' G' R', Ext G G' → hget G' R' = .cells false (((seenN ls m).foldl insE es).flatMap encE) → fr' 28 = .slice (some ⟨R', 0, none⟩) (es.length + m) (loose 7) → (∀ j, j ≤ 27 → fr' j = fr j) → Ret E a16 lim K fr' G' Z) :
    Ret E a16 lim (.code (.loop l16_2) :: .inBlock 2 :: K) fr G Z := by
  refine Ret_rounds (fun s : Nat × Nat => m - s.1) (fun s fr' G' => s.1 ≤ m ∧ Ext G G' ∧ hget G' s.2 = .cells false (((seenN ls s.1).foldl insE es).flatMap encE) ∧ fr' 28 = .slice (some ⟨s.2, 0, none⟩) (es.length + s.1) (loose 7) ∧ fr' 160 = .slice q2 m ck ∧ fr' 161 = .int .i64 (m : Int) ∧ fr' 162 = .int .i64 (s.1 : Int) ∧ (∀ j, j ≤ 27 → fr' j = fr j)) (0, R)
    ⟨Nat.zero_le _, Ext.refl, hes, f28, f160, f161, by rw [f162]; rfl, fun _ _ => rfl⟩ ?_
  rintro ⟨i, S⟩ fr' G' ⟨hi, hE, hS, g28, g160, g161, g162, hfr⟩ hN
  simp only at hi hS g28 g162
  rw [Ret_code l16_2.eq_1]
  refine Ret_pad ?_
  by_cases hlt : i < m
  case neg =>
    obtain rfl : i = m := by omega
    simp only [n16, r16, g28, g160, g161, g162, hlt, SB, Nat.reduceLT, callee, aOp, ne_eq, Nat.reduceEqDiff, aBin, aUn, if_true, if_false, reduceCtorEq, frame0, place, notTuple, Nat.reduceAdd, Nat.reduceLeDiff, resVal, dite_true, dite_false, Int.reduceEq, Int.reduceLT, Int.reduceLE]
    exact hR _ _ _ hE.app ((Ext.refl.app).cells hS) (by simp only [g28, FB, Nat.reduceEqDiff]) fun j hj => by
      rw [← hfr j hj]
      simp only [upd]
      repeat rw [if_neg (by omega)]
  have hsl := seenN_len (ls := ls) (n := m)
  have hfl : ((seenN ls i).foldl insE es).length = es.length + i := by rw [fold_len, seenN_len]
  have sQ := hE.sl hs
  have ld := fun X => (sQ.app X).loadCells encE_len (i := i) (by omega)
  have ix := fun c (kk : IntKind) (H1 : Heap) => sQ.idx (c := c) (k := kk) (H1 := H1) (i := i) (by omega)
  rw [hsl] at ix
  rw [seenN_get hlt] at ld
  have hlG := hE.len
  have hlimG : lim ≤ G'.length := by omega
  have efold : (seenN ls (i + 1)).foldl insE es = insE ((seenN ls i).foldl insE es) (evN ls i) := by
    have : seenN ls (i + 1) = seenN ls i ++ [evN ls i] := by unfold seenN; rw [List.range_succ, List.map_append, List.map_singleton]
    rw [this, List.foldl_append]; rfl
  generalize hfs : (seenN ls i).foldl insE es = fs at hS hfl efold
  generalize hx : evN ls i = x at ld efold
  simp only [n16, r16, g28, g160, g161, g162, hlt, ld, ix, setAll_full, encE_len, hlimG, SB, Nat.reduceLT, callee, aOp, ne_eq, Nat.reduceEqDiff, aBin, aUn, if_true, if_false, reduceCtorEq, frame0, place, notTuple, Nat.reduceAdd, Nat.reduceLeDiff, resVal, dite_true, dite_false, Int.reduceEq, Int.reduceLT, Int.reduceLE]
  rw [← hfl]
  refine pos_loop (x := x) (es := fs) ((Sl.row (ro := false) encE_len hS).app _) (by omega) (by rw [hget_new0]; rfl) (by rw [hfl]; exact (by simp only [g28, FB, Nat.reduceEqDiff])) (by simp only [FB, Nat.reduceEqDiff]) (by rw [hfl]; exact (by simp only [FB, Nat.reduceEqDiff])) fun fr1 G1 hE1 h31 hf1 hf2 => ?_
  have k28 : fr1 28 = .slice (some ⟨S, 0, none⟩) fs.length (loose 7) := (hf1 28 (by decide)).trans (by rw [hfl]; exact (by simp only [g28, FB, Nat.reduceEqDiff]))
  have k30 : fr1 30 = .pointer (some ⟨G'.length, 0, none⟩) := (hf1 30 (by decide)).trans (by simp only [FB, Nat.reduceEqDiff])
  have k160 : fr1 160 = .slice q2 m ck := (hf2 160 (by decide) (by decide)).trans (by simp only [g160, FB, Nat.reduceEqDiff])
  have k161 : fr1 161 = .int .i64 (m : Int) := (hf2 161 (by decide) (by decide)).trans (by simp only [g161, FB, Nat.reduceEqDiff])
  have k162 : fr1 162 = .int .i64 (i : Int) := (hf2 162 (by decide) (by decide)).trans (by simp only [g162, FB, Nat.reduceEqDiff])
  have hS1 := hE1.cells ((Ext.refl.app (X := [Blk.cells false (encE x)])).cells hS)
  have hb1 : hget G1 G'.length = .cells false (encE x) := hE1.cells (by rw [hget_new0]; rfl)
  have hb1X := fun X => (Ext.refl.app (X := X)).cells hb1
  have hk := posI_le (es := fs) (x := x) fs.length
  have eins : insE fs x = putE fs (posI fs x fs.length) x := rfl
  generalize posI fs x fs.length = at' at h31 hk eins
  have s1 : sliceV 7 (.slice (some ⟨S, 0, none⟩) fs.length (loose 7)) none (some (.int .i64 (at' : Int))) (some (.int .i64 (at' : Int))) = some (.slice (some ⟨S, 0, none⟩) at' at') := by
    have hb : bounds unV fs.length fs.length none (some (.const (.int .i64 (at' : Int)))) (some (.const (.int .i64 (at' : Int)))) = some (0, at', at') := by
      have := bv_011 (len := fs.length) (cap := fs.length) (k1 := .i64) (k2 := .i64) (h := (at' : Int)) (x := (at' : Int)) (by omega) (by omega) (by omega)
      rw [Int.toNat_natCast] at this
      exact this
    unfold sliceV aSliceS
    simp only [Option.map_some, Option.map_none, if_true, hb]
    rw [if_pos (by omega)]
    simp only [addr_add, Nat.zero_mul, Nat.add_zero, Nat.sub_zero, ite_self]
  have s2 : sliceV 7 (.slice (some ⟨S, 0, none⟩) fs.length (loose 7)) (some (.int .i64 (at' : Int))) none none = some (.slice (some ⟨S, at' * 7, none⟩) (fs.length - at') (loose 7)) := by
    have hb : bounds unV fs.length fs.length (some (.const (.int .i64 (at' : Int)))) none none = some (at', fs.length, fs.length) := by
      have := bv_100 (len := fs.length) (cap := fs.length) (k1 := .i64) (l := (at' : Int)) (by omega) (by omega)
      rw [Int.toNat_natCast] at this
      exact this
    unfold sliceV aSliceS
    simp only [Option.map_some, Option.map_none, if_true, hb, addr_add, Nat.zero_add]
  refine Ret_pad ?_
  have wi : IntKind.i64.wrap ((i : Int) + 1) = ((i + 1 : Nat) : Int) := wrap_nat (by omega)
  have hlt1 : (fs.take at').length = at' := by rw [List.length_take]; omega
  have hld1 : (fs.drop at').length = fs.length - at' := List.length_drop
  have hSl := hget_alive hS1
  have htk : ∀ X, AM.loadCells (G1 ++ X) ⟨S, 0, none⟩ (at' * 7) = some ((fs.take at').flatMap encE) := fun X => by
    rw [loadCells_lit, hget_old hSl, hS1]
    simp only [Nat.zero_add, List.drop_zero]
    rw [if_pos (by rw [flat_len encE_len]; omega), flat_take encE_len]
  have hdr : ∀ X, Sl (G1 ++ X) encE 7 (some ⟨S, at' * 7, none⟩) (fs.drop at') := fun X => by
    have := (Sl.row (R := S) (ro := false) encE_len (((Ext.refl.app (X := X)).cells hS1))).sub encE_len hk (Nat.le_refl fs.length)
    rw [addr_add, Nat.zero_add, List.take_length] at this
    exact this
  have hxs : ∀ X, Sl (G1 ++ .cells false (encE x) :: X) encE 7 (some ⟨G1.length, 0, none⟩) [x] := fun X => Sl.row (ro := false) encE_len (by rw [hget_new0]; simp)
  have next : ∀ fr' (a b : Blk), fr' 28 = .slice (some ⟨G1.length + 2, 0, none⟩) (es.length + (i + 1)) (loose 7) → fr' 160 = .slice q2 m ck → fr' 161 = .int .i64 (m : Int) → fr' 162 = .int .i64 ((i + 1 : Nat) : Int) → (∀ j, j ≤ 27 → fr' j = fr1 j) → Ret E a16 lim (.inLoop l16_2 :: .inBlock 2 :: K) fr' (G1 ++ [a, b, .cells false ((insE fs x).flatMap encE)]) Z := fun fr' a b q1 q2 q3 q4 q5 => by
    refine hN (i + 1, G1.length + 2) fr' _ ⟨by show i + 1 ≤ m; omega, ((hE.trans (Ext.refl.app)).trans hE1).app, ?_, q1, q2, q3, q4, fun j hj => ?_⟩ (by show m - (i + 1) < m - i; omega)
    · show hget _ (G1.length + 2) = .cells false (((seenN ls (i + 1)).foldl insE es).flatMap encE)
      rw [efold, hget_new]; rfl
    · rw [q5 j hj, hf1 j (by omega), ← hfr j hj]
      simp only [upd]
      repeat rw [if_neg (by omega)]
  by_cases hd0 : fs.drop at' = []
  · have hat : fs.length - at' = 0 := by rw [← hld1, hd0]; rfl
    have e1 : ∀ X, aAppend lim (some (G1.length + 1)) 7 56 false (.slice (some ⟨G1.length, 0, none⟩) 1 1) (.slice (some ⟨S, at' * 7, none⟩) (fs.length - at') (loose 7)) (G1 ++ .cells false (encE x) :: X) = some (.slice (some ⟨G1.length, 0, none⟩) 1 1, G1 ++ .cells false (encE x) :: X) := fun X => by
      rw [hat]
      exact append_none (by decide) (.inr ⟨_, rfl⟩) (by decide) (by decide) (Nat.le_refl _) (.inr ⟨_, rfl⟩)
    have e2 : ∀ X, aAppend lim (some (G1.length + 2)) 7 56 false (.slice (some ⟨S, 0, none⟩) at' at') (.slice (some ⟨G1.length, 0, none⟩) 1 1) (G1 ++ .cells false (encE x) :: X) = some (.slice (some ⟨G1.length + 2, 0, none⟩) (at' + 1) (loose 7), (G1 ++ .cells false (encE x) :: X).set (G1.length + 2) (.cells false ((insE fs x).flatMap encE))) := fun X => by
      have := append_full (lim := lim) (d := G1.length + 2) (bytes := 56) (c := 1) (l := fs.take at') (m := [x]) (by rw [hlt1]; exact htk _) (hxs X) (by decide) (by simp) (by rw [hlt1]; unfold maxBytes; simp; omega) (by rw [hlt1]; simp; omega)
      rw [hlt1] at this
      rw [eins, putE, hd0]
      exact this
    simp only [n16, r16, k28, k30, k160, k161, k162, h31, hb1X, take_all, encE_len, encE_0, encE_1, encE_2, encE_3, encE_4, encE_5, encE_6, s1, s2, wi, e1, e2, SB, Nat.reduceLT, callee, aOp, ne_eq, Nat.reduceEqDiff, aBin, aUn, if_true, if_false, reduceCtorEq, frame0, place, notTuple, Nat.reduceAdd, Nat.reduceLeDiff, resVal, dite_true, dite_false, Int.reduceEq, Int.reduceLT, Int.reduceLE]
    exact next _ _ _ (by rw [show es.length + (i + 1) = at' + 1 by omega]; rfl) (by simp only [k160, FB, Nat.reduceEqDiff]) (by simp only [k161, FB, Nat.reduceEqDiff]) (by simp only [FB, Nat.reduceEqDiff]) (fun j hj => by simp only [upd]; repeat rw [if_neg (by omega)])
  · have hdl : (x :: fs.drop at').length = 1 + (fs.length - at') := by simp; omega
    have e1 : ∀ X, aAppend lim (some (G1.length + 1)) 7 56 false (.slice (some ⟨G1.length, 0, none⟩) 1 1) (.slice (some ⟨S, at' * 7, none⟩) (fs.length - at') (loose 7)) (G1 ++ .cells false (encE x) :: X) = some (.slice (some ⟨G1.length + 1, 0, none⟩) (1 + (fs.length - at')) (loose 7), (G1 ++ .cells false (encE x) :: X).set (G1.length + 1) (.cells false ((x :: fs.drop at').flatMap encE))) := fun X => by
      have := append_full (lim := lim) (d := G1.length + 1) (bytes := 56) (c := loose 7) (a := ⟨G1.length, 0, none⟩) (l := [x]) (m := fs.drop at') (by simp [loadCells_lit, hget_new0, encE_len]; exact take_all (encE_len x)) (hdr (.cells false (encE x) :: X)) (by decide) hd0 (by rw [hld1]; unfold maxBytes; simp; omega) (by rw [hld1]; simp; omega)
      rw [hld1] at this
      exact this
    have e2 : ∀ X a, aAppend lim (some (G1.length + 2)) 7 56 false (.slice (some ⟨S, 0, none⟩) at' at') (.slice (some ⟨G1.length + 1, 0, none⟩) (1 + (fs.length - at')) (loose 7)) (G1 ++ a :: .cells false ((x :: fs.drop at').flatMap encE) :: X) = some (.slice (some ⟨G1.length + 2, 0, none⟩) (at' + (1 + (fs.length - at'))) (loose 7), (G1 ++ a :: .cells false ((x :: fs.drop at').flatMap encE) :: X).set (G1.length + 2) (.cells false ((insE fs x).flatMap encE))) := fun X a => by
      have := append_full (lim := lim) (d := G1.length + 2) (bytes := 56) (c := loose 7) (l := fs.take at') (m := x :: fs.drop at') (by rw [hlt1]; exact htk _) (Sl.row (H := G1 ++ a :: .cells false ((x :: fs.drop at').flatMap encE) :: X) (R := G1.length + 1) (ro := false) encE_len (by rw [hget_new]; rfl)) (by decide) (by simp) (by rw [hlt1, hdl]; unfold maxBytes; omega) (by rw [hlt1, hdl]; omega)
      rw [hlt1, hdl] at this
      rw [eins, putE]
      exact this
    simp only [n16, r16, k28, k30, k160, k161, k162, h31, hb1X, take_all, encE_len, encE_0, encE_1, encE_2, encE_3, encE_4, encE_5, encE_6, s1, s2, wi, e1, e2, SB, Nat.reduceLT, callee, aOp, ne_eq, Nat.reduceEqDiff, aBin, aUn, if_true, if_false, reduceCtorEq, frame0, place, notTuple, Nat.reduceAdd, Nat.reduceLeDiff, resVal, dite_true, dite_false, Int.reduceEq, Int.reduceLT, Int.reduceLE]
    exact next _ _ _ (by rw [show es.length + (i + 1) = at' + (1 + (fs.length - at')) by omega]; rfl) (by simp only [k160, FB, Nat.reduceEqDiff]) (by simp only [k161, FB, Nat.reduceEqDiff]) (by simp only [FB, Nat.reduceEqDiff]) (fun j hj => by simp only [upd]; repeat rw [if_neg (by omega)])
theorem Clean_ok [OB] {mp : Bool} {lim c c2 cd : Nat} {p p2 pd : Option Addr} {rs : List RL} {ls : List Lk} {ds : List Int} {u1 u2 : Int} {H : Heap} {Q : Value → Heap → Prop} (hs : Sl H encR 6 p rs) (hb : ∀ x ∈ rs, ByR x) (hl : rs.length < 2 ^ 63) (hc : CapOk 6 c rs.length)
    (hs2 : Sl H encK 3 p2 ls) (hb2 : ∀ x ∈ ls, ByK x) (hl2 : ls.length < 2 ^ 63) (hc2 : CapOk 3 c2 ls.length) (hu1 : 0 ≤ u1 ∧ u1 ≤ 255) (hu2 : 0 ≤ u2 ∧ u2 ≤ 255) (hd : Sl H encU 1 pd ds) (hdl : ds.length < 2 ^ 63) (hds : ∀ x ∈ ds, 0 ≤ x ∧ x ≤ 255) (hA : OB.on 38 = true) :
    CallR E mp lim 16 [.slice p rs.length c, .int .u8 u1, .int .u8 u2, .slice pd ds.length cd, .slice p2 ls.length c2] H Q = Q (.bool true) H := by
  refine pc (by decide) e16 rfl rfl ?_
  rw [b16, c16]
  simp only [n16, r16, SB, Nat.reduceLT, callee, aOp, ne_eq, Nat.reduceEqDiff, aBin, aUn, if_true, if_false, reduceCtorEq, frame0, place, notTuple, Nat.reduceAdd, Nat.reduceLeDiff, resVal, dite_true, dite_false, Int.reduceEq, Int.reduceLT, Int.reduceLE]
  refine Net_ok (hs.app _) hb hl hc (by simp) fun G0 pp pl cl hC0 hN0 => ?_
  replace hC0 := hC0.pre
  have hn10 : min rs.length 10 ≤ 10 := by omega
  have hnr : min rs.length 10 ≤ rs.length := by omega
  generalize min rs.length 10 = n at hN0 hn10 hnr ⊢
  have hl0 := hC0.len
  have hval := netL_valid hb hnr hn10
  have nl := netL_len rs n
  have wu : ∀ u : Int, 0 ≤ u ∧ u ≤ 255 → IntKind.i64.wrap u = u ∧ ∃ a, IntKind.i64.wrap (1 + u.tmod 5) = a ∧ a ∈ P5 := fun u hu => by
    have t1 := Int.tmod_lt_of_pos u (show (0 : Int) < 5 by decide)
    have t2 := Int.tmod_nonneg (5 : Int) hu.1
    exact ⟨wrap_id (by omega) (by omega), _, wrap_id (by omega) (by omega), in_P5 (by omega) (by omega)⟩
  obtain ⟨w1, a, w2, hp1⟩ := wu u1 hu1
  obtain ⟨w3, b, w4, hp2⟩ := wu u2 hu2
  have herr : errA P5 (netL rs n) a b 14400 = 0 := by
    unfold errA
    rw [if_neg (by rw [hval]; simp), if_pos ⟨hp1, hp2, by decide, by decide⟩]
  have hHG : H.length ≤ G0.length := by omega
  refine Ret_pad ?_
  simp only [n16, r16, setAll_full, hHG, netV_len, netV_0, netV_1, take_all, w1, w2, w3, w4, SB, Nat.reduceLT, callee, aOp, ne_eq, Nat.reduceEqDiff, aBin, aUn, if_true, if_false, reduceCtorEq, frame0, place, notTuple, Nat.reduceAdd, Nat.reduceLeDiff, resVal, dite_true, dite_false, Int.reduceEq, Int.reduceLT, Int.reduceLE]
  refine Way_ok (P := P5) (cp := 5) (cl := cl) (hN0.app _) (by simp; omega) (fun _ h => absurd herr h) (fun G1 _ _ hC1 => ?_) (fun G1 v w pw cw _ hC1 hv0 hva hbw _ hOw => ?_)
  · refine Ret_pad ?_
    simp only [n16, r16, awake38_on hA, SB, Nat.reduceLT, callee, aOp, ne_eq, Nat.reduceEqDiff, aBin, aUn, if_true, if_false, reduceCtorEq, frame0, place, notTuple, Nat.reduceAdd, Nat.reduceLeDiff, resVal, dite_true, dite_false, Int.reduceEq, Int.reduceLT, Int.reduceLE]
  have hn := valid_net hval
  have hv2 := (hva.ge hn.fine hv0).2
  have hwl : w.length < 5 := best_few hn hp1 hbw
  have k0 : hget G1 G0.length = .cells false (netV pp 5 5 pl (netL rs n).length cl) := hC1.cells (by rw [hget_new0]; rfl) (by simp)
  have hN1 := hN0.sim (G := G1) fun b ro c hb => hC1.pre.cells hb (by simp)
  have hl1 := hC1.pre.len
  have hC1' := hC0.trans hC1.pre
  have sw := hOw.sl enc3_len
  have eev : encE (seenE a 14400) = [.int .i64 7, .int .i64 a, .int .i64 1, .int .u8 2, .int .i64 14400, .int .i64 14400, .int .i64 14400] := rfl
  refine Ret_pad ?_
  simp only [n16, r16, seen_ok, SB, Nat.reduceLT, callee, aOp, ne_eq, Nat.reduceEqDiff, aBin, aUn, if_true, if_false, reduceCtorEq, frame0, place, notTuple, Nat.reduceAdd, Nat.reduceLeDiff, resVal, dite_true, dite_false, Int.reduceEq, Int.reduceLT, Int.reduceLE]
  rw [← eev]
  refine clean_loop (a := a) (q := b) (v := v) (w := w) (ds := ds) (cw := cw) (cd := cd) hN1 k0 hval sw (by omega) (hC1'.sl hd (by simp)) hdl hds hbw.way (by omega) (by omega) (by simp only [FB, Nat.reduceEqDiff]) (by simp only [FB, Nat.reduceEqDiff]) (by simp only [FB, Nat.reduceEqDiff]) (by simp only [FB, Nat.reduceEqDiff]) (by simp only [FB, Nat.reduceEqDiff]) (by simp only [FB, Nat.reduceEqDiff]) (by rfl) fun fr1 G2 q2 cq2 hC2 hO2 h16 hf1 => ?_
  have f4 : fr1 4 = .slice p2 ls.length c2 := (hf1 4 (by decide)).trans (by simp only [FB, Nat.reduceEqDiff])
  have f11 : fr1 11 = .pointer (some ⟨G0.length, 0, none⟩) := (hf1 11 (by decide)).trans (by simp only [FB, Nat.reduceEqDiff])
  have hds0 : ∀ x ∈ ds, 0 ≤ x := fun x hx => (hds x hx).1
  have mt : maxTime = 1051898399 := rfl
  have hone := clean_one (ds := ds) hval hp1 hbw.way (by decide) hv2 (by omega) hds0
  have hsort := clean_sorted (ds := ds) hval hbw.way (by decide) hds0
  have hfree : ∀ i, i + 1 < (cleanN a 14400 ds w w.length).length → priceN P5 (netL rs n) (gt (cleanN a 14400 ds w w.length) i) (gt (cleanN a 14400 ds w w.length) (i + 1)) = 0 := fun i hi => by
    rw [cleanN_len] at hi
    exact clean_step hval hbw.way (by decide) hv2 (by omega) hds0 (by omega)
  have hlen := cleanN_len (p := a) (ready := 14400) (ds := ds) (w := w) (n := w.length)
  rw [← hlen] at h16
  generalize cleanN a 14400 ds w w.length = es at hO2 h16 hone hsort hfree hlen
  have hbf := best_free hfree
  have hcf := cheap_free (by omega) hfree
  have herrI : errI P5 (netL rs n) es = 0 := by
    unfold errI
    rw [if_neg (by rw [hval]; simp), if_neg (by omega), if_pos (evs_of hone hsort)]
  have s2 := hO2.sl encE_len
  have k2 := hC2.cells k0 (by simp)
  have k2X := fun X => (Ext.refl.app (X := X)).cells k2
  have hN2 := hN1.sim (G := G2) fun b ro c hb => hC2.cells hb (by simp)
  have hl2' := hC2.len
  have hC2' := hC1'.trans hC2
  refine Ret_pad ?_
  simp only [n16, r16, f4, f11, h16, k2X, netV_len, netV_0, netV_1, take_all, SB, Nat.reduceLT, callee, aOp, ne_eq, Nat.reduceEqDiff, aBin, aUn, if_true, if_false, reduceCtorEq, frame0, place, notTuple, Nat.reduceAdd, Nat.reduceLeDiff, resVal, dite_true, dite_false, Int.reduceEq, Int.reduceLT, Int.reduceLE]
  refine Best_ok (P := P5) (L := netL rs n) (cp := 5) (cl := cl) (hN2.app _) (by simp; omega) (s2.app _) (by omega) (fun _ h => absurd herrI h) fun G3 q3 cq3 r3 cr3 _ hC3 _ _ => ?_
  have eb : costN P5 (netL rs n) es (bestN P5 (netL rs n) es) = 0 := hbf.1
  rw [eb, hbf.2]
  have hl3 := hC3.pre.len
  have k3 := hC3.cells ((Ext.refl.app (X := [])).cells k2) (by simp)
  have hN3 := hN2.sim (G := G3) fun b ro c hb => hC3.pre.cells hb (by simp)
  have hHG3 : H.length ≤ G3.length := by omega
  have hC3' := hC2'.trans hC3.pre
  have s3 := hC3.pre.sl s2 (by simp)
  refine Ret_pad ?_
  simp only [n16, r16, f4, f11, h16, setAll_full, hHG3, SB, Nat.reduceLT, callee, aOp, ne_eq, Nat.reduceEqDiff, aBin, aUn, if_true, if_false, reduceCtorEq, frame0, place, notTuple, Nat.reduceAdd, Nat.reduceLeDiff, resVal, dite_true, dite_false, Int.reduceEq, Int.reduceLT, Int.reduceLE]
  refine Seen_ok (k := 3) ((hC3'.sl hs2 (by simp)).app _) hb2 hl2 hc2 (by decide) (by simp; omega) fun G4 q4 cq4 hC4 hO4 => ?_
  have hm3 : min ls.length 3 ≤ 3 := by omega
  have hml : min ls.length 3 ≤ ls.length := by omega
  generalize min ls.length 3 = m at hO4 hm3 hml ⊢
  have s4 := hO4.sl encE_len
  have hC4' := hC4.pre
  have hl4 := hC4'.len
  have k4 := hC4'.cells k3 (by simp)
  have hN4 := hN3.sim (G := G4) fun b ro c hb => hC4'.cells hb (by simp)
  have se4 := hC4'.sl s3 (by simp)
  have e5 : aAppend H.length none 7 56 false (.slice (some ⟨G4.length, 0, none⟩) 0 0) (.slice q2 es.length cq2) (G4 ++ [.cells false []]) = some (.slice (some ⟨G4.length + 1, 0, none⟩) es.length (loose 7), G4 ++ [.cells false [], .cells false (es.flatMap encE)]) := by
    have := append_newN (lim := H.length) (b := G4.length) (e := 7) (bytes := 56) (c := cq2) (enc := encE) (H := G4 ++ [.cells false []]) hget_new0 (se4.app _) (by decide) (by unfold maxBytes; omega) (by omega) (by intro h; rw [h] at hlen; cases hlen)
    simpa using this
  refine Ret_pad ?_
  simp only [n16, r16, f4, f11, h16, e5, SB, Nat.reduceLT, callee, aOp, ne_eq, Nat.reduceEqDiff, aBin, aUn, if_true, if_false, reduceCtorEq, frame0, place, notTuple, Nat.reduceAdd, Nat.reduceLeDiff, resVal, dite_true, dite_false, Int.reduceEq, Int.reduceLT, Int.reduceLE]
  refine stray_loop (es := es) (R := G4.length + 1) (m := m) (ls := ls) (q2 := q4) (ck := cq4) (s4.app _) hm3 (by rw [hget_new]; rfl) (by omega) (by simp; omega) (by simp only [FB, Nat.reduceEqDiff]) (by simp only [FB, Nat.reduceEqDiff]) (by simp only [FB, Nat.reduceEqDiff]) (by rfl) fun fr2 G5 R5 hE5 hR5 h28 hf2 => ?_
  have g11 : fr2 11 = .pointer (some ⟨G0.length, 0, none⟩) := (hf2 11 (by decide)).trans (by simp only [f11, FB, Nat.reduceEqDiff])
  have g27 : fr2 27 = .slice q4 m cq4 := (hf2 27 (by decide)).trans (by simp only [FB, Nat.reduceEqDiff])
  have hE45 : Ext G4 G5 := (Ext.refl.app).trans hE5
  have hN5 := hN4.ext hE45
  have k5X := fun X => (Ext.refl.app (X := X)).cells (hE45.cells k4)
  have hl5 := hE45.len
  have hfl := fold_len (xs := seenN ls m) (es := es)
  rw [seenN_len] at hfl
  obtain ⟨hone5, hsort5, hch5⟩ := strays_ok (P := P5) (L := netL rs n) (es := es) (m := m) hb2 hml (by omega) hone hsort hcf
  rw [← hfl] at h28
  generalize (seenN ls m).foldl insE es = fs at hR5 h28 hfl hone5 hsort5 hch5
  have herr5 : errI P5 (netL rs n) fs = 0 := by
    unfold errI
    rw [if_neg (by rw [hval]; simp), if_neg (by omega), if_pos (evs_of hone5 hsort5)]
  have hb5 := hch5.best
  have h05 := bestC_nonneg (P := P5) (L := netL rs n) (es := fs)
  refine Ret_pad ?_
  simp only [n16, r16, g11, g27, h28, k5X, netV_len, netV_0, netV_1, take_all, SB, Nat.reduceLT, callee, aOp, ne_eq, Nat.reduceEqDiff, aBin, aUn, if_true, if_false, reduceCtorEq, frame0, place, notTuple, Nat.reduceAdd, Nat.reduceLeDiff, resVal, dite_true, dite_false, Int.reduceEq, Int.reduceLT, Int.reduceLE]
  refine Best_ok (P := P5) (L := netL rs n) (cp := 5) (cl := cl) (hN5.app _) (by simp; omega) (Sl.row (ro := false) encE_len ((Ext.refl.app).cells hR5)) (by omega) (fun _ h => absurd herr5 h) fun G6 q6 cq6 r6 cr6 _ hC6 _ _ => ?_
  have eb6 : costN P5 (netL rs n) fs (bestN P5 (netL rs n) fs) = bestC P5 (netL rs n) fs := rfl
  rw [eb6]
  generalize bestC P5 (netL rs n) fs = x at hb5 h05 ⊢
  have hl6 := hC6.pre.len
  have hHG6 : H.length ≤ G6.length := by omega
  have w30 : IntKind.i64.wrap (30 * (m : Int)) = 30 * (m : Int) := wrap_id (by omega) (by omega)
  refine Ret_pad ?_
  simp only [n16, r16, g27, setAll_full, hHG6, w30, eq_true (show x ≤ 30 * (m : Int) by omega), eq_false (show ¬ 30 * (m : Int) < x by omega), awake38_on hA, SB, Nat.reduceLT, callee, aOp, ne_eq, Nat.reduceEqDiff, aBin, aUn, if_true, if_false, reduceCtorEq, frame0, place, notTuple, Nat.reduceAdd, Nat.reduceLeDiff, resVal, dite_true, dite_false, Int.reduceEq, Int.reduceLT, Int.reduceLE]
end Go.Proofs.Ytcmhnincbkbncaa.Fn

