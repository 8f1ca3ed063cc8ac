/-
  Joined texts, 5 of 9. A part of the claim that the last text states.
-/
import Derived.Test.YtlmoijifgbkapaaPU4
namespace Go.Proofs.Ytlmoijifgbkapaa.Fn
open Go.AM Go.AM.Sym Go.Sort
set_option maxRecDepth 100000
set_option linter.unusedVariables false
set_option linter.unusedSimpArgs false
set_option maxHeartbeats 4000000

theorem swp_sz {α : Type} [Inhabited α] {d : Array α} {i j : Nat} : (swp d i j).size = d.size := by simp [swp]
theorem siftDown_sz {α : Type} [Inhabited α] {lt : α → α → Bool} {hi first : Nat} : ∀ (m r : Nat) (d : Array α), hi - r ≤ m → (siftDown lt hi first r d).size = d.size
  | 0, r, d, h => by
    rw [siftDown, dif_pos (by omega)]
  | m + 1, r, d, h => by
    rw [siftDown]
    split
    · rfl
    · split
      · split
        · rfl
        · split
          · rw [siftDown_sz m _ _ (by omega), swp_sz]
          · rfl
      · split
        · rfl
        · rw [siftDown_sz m _ _ (by omega), swp_sz]
theorem heap_ok {G X : Heap} {B lim cap n : Nat} {p : Option Addr} {c : Clm → Clm → Int} {cl : FuncId} {cs : List Value} {Q : Value → Heap → Prop} (hp : p = some ⟨B, 0, none⟩) (hB : B < G.length) (hl : lim ≤ B) (hn2 : n < 2 ^ 61) (hc : ∀ (mp : Bool) (lim : Nat) (x y : Clm) (H : Heap) (Q : Value → Heap → Prop), CallR E mp lim cl (.agg (encC x).toArray :: .agg (encC y).toArray :: cs) H Q = Q (.int .i64 (c x y)) H) {d : Array Clm} {a b : Nat} (hd : d.size = n) (hb : b ≤ n) (hab : a ≤ b) :
    CallR E false lim 79 [.slice p n cap, .int .i64 (a : Int), .int .i64 (b : Int), .func (.func cl) #[] cs.toArray] (DH encC G B d ++ X) Q = Q (.tuple #[]) (DH encC G B (heapSort (ltC c) d a b) ++ X) := by
  refine runs (by decide) e79 rfl ?_
  rw [b79, c79]
  obtain ⟨h, rfl⟩ : ∃ h, b = a + h := ⟨b - a, by omega⟩
  have hw0 : IntKind.i64.wrap (((a + h : Nat) : Int) - (a : Int)) = (h : Int) := by rw [wrap_id (by omega) (by omega)]; omega
  have hw1 : IntKind.i64.wrap ((h : Int) - 1) = (h : Int) - 1 := wrap_id (by omega) (by omega)
  have hw2 : IntKind.i64.wrap (((h : Int) - 1).tdiv 2) = (((h - 1) / 2 + 1 : Nat) : Int) - 1 := by
    rcases Nat.eq_zero_or_pos h with rfl | h0
    · decide
    · rw [Int.tdiv_eq_ediv_of_nonneg (by omega), wrap_id (by omega) (by omega)]; omega
  generalize hT : heapSort (ltC c) d a (a + h) = T
  rw [heapSort, show a + h - a = h by omega] at hT
  have ld := fun (i : Nat) (X : Heap) (d : Array Clm) (hd : d.size = n) (hi : i < n) => DH_ld (X := X) (d := d) (i := i) hp hB encC_len (by omega); have st := fun (i : Nat) (X : Heap) (d : Array Clm) (hd : d.size = n) (hi : i < n) (y : Clm) => DH_st (X := X) (d := d) (i := i) (y := y) hp hB hl encC_len (by omega); have ix := fun (i : Nat) (hi : i < n) c (k : IntKind) (H : Heap) => DH_idx (e := 6) (i := i) (n := n) (c := c) (k := k) (H := H) hp hi
  have hsift := fun (X : Heap) (d : Array Clm) (lo hi : Nat) (hd : d.size = n) (hh : hi ≤ h) (hlo : lo ≤ hi) Q => sift_ok (X := X) (d := d) (lo := lo) (hi := hi) (first := a) (cap := cap) (Q := Q) hp hB hl hn2 hc hd (by omega) hlo
  simp only [n79, r79, hw0, hw1, hw2, SB, Nat.reduceLT, callee, aOp, ne_eq, Nat.reduceEqDiff, aBin, aUn, if_true, if_false, reduceCtorEq, frame0, place, notTuple, Nat.reduceAdd, Nat.reduceLeDiff, resVal, dite_true, dite_false, Int.reduceEq, Int.reduceLT, Int.reduceLE]
  refine Ret_rounds (S := Nat × Array Clm) (fun s => s.1) (fun s fr H => s.1 ≤ h + 1 ∧ (h = 0 → s.1 ≤ 1) ∧ (0 < h → s.1 ≤ h) ∧ fr 0 = .slice p n cap ∧ fr 3 = .func (.func cl) #[] cs.toArray ∧ fr 8 = .int .i64 (a : Int) ∧ fr 9 = .int .i64 0 ∧ fr 10 = .int .i64 (h : Int) ∧ fr 11 = .int .i64 ((s.1 : Int) - 1) ∧
    H = DH encC G B s.2 ++ X ∧ s.2.size = n ∧ T = heapPop (ltC c) a h (heapBuild (ltC c) h a s.1 s.2)) ((h - 1) / 2 + 1, d) ⟨by simp only; omega, by simp only; omega, by simp only; omega, (by simp only [upd_same, upd_ne, ne_eq, Nat.reduceEqDiff, not_false_eq_true, frame0, List.getD_cons_zero, List.getD_cons_succ]), (by simp only [upd_same, upd_ne, ne_eq, Nat.reduceEqDiff, not_false_eq_true, frame0, List.getD_cons_zero, List.getD_cons_succ]), (by simp only [upd_same, upd_ne, ne_eq, Nat.reduceEqDiff, not_false_eq_true, frame0, List.getD_cons_zero, List.getD_cons_succ]), (by simp only [upd_same, upd_ne, ne_eq, Nat.reduceEqDiff, not_false_eq_true, frame0, List.getD_cons_zero, List.getD_cons_succ]), (by simp only [upd_same, upd_ne, ne_eq, Nat.reduceEqDiff, not_false_eq_true, frame0, List.getD_cons_zero, List.getD_cons_succ]), (by simp only [upd_same, upd_ne, ne_eq, Nat.reduceEqDiff, not_false_eq_true, frame0, List.getD_cons_zero, List.getD_cons_succ]), rfl, hd, hT.symm⟩ ?_
  rintro ⟨k, d1⟩ fr H ⟨h1, h2, h3, g0, g3, g8, g9, g10, g11, rfl, hd1, he⟩ hN
  simp only at h1 h2 h3 g11 hd1 he
  rw [Ret_code l79_2.eq_1]
  cases k with
  | succ k =>
    have hk : ((k + 1 : Nat) : Int) - 1 = (k : Int) := by omega
    rw [hk] at g11
    have hw3 : IntKind.i64.wrap ((k : Int) - 1) = (k : Int) - 1 := wrap_id (by omega) (by omega)
    have hk1 : k ≤ h := by omega
    have hk0 : (0 : Int) ≤ (k : Int) := by omega
    simp only [n79, r79, g0, g3, g8, g9, g10, g11, hk0, hw3, hsift, hd1, hk1, SB, Nat.reduceLT, callee, aOp, ne_eq, Nat.reduceEqDiff, aBin, aUn, if_true, if_false, reduceCtorEq, frame0, place, notTuple, Nat.reduceAdd, Nat.reduceLeDiff, resVal, dite_true, dite_false, Int.reduceEq, Int.reduceLT, Int.reduceLE]
    refine hN (k, siftDown (ltC c) h a k d1) _ _ ⟨by simp only; omega, by simp only; omega, by simp only; omega, (by simp only [g0, upd_same, upd_ne, ne_eq, Nat.reduceEqDiff, not_false_eq_true, frame0, List.getD_cons_zero, List.getD_cons_succ]), (by simp only [g3, upd_same, upd_ne, ne_eq, Nat.reduceEqDiff, not_false_eq_true, frame0, List.getD_cons_zero, List.getD_cons_succ]), (by simp only [g8, upd_same, upd_ne, ne_eq, Nat.reduceEqDiff, not_false_eq_true, frame0, List.getD_cons_zero, List.getD_cons_succ]), (by simp only [g9, upd_same, upd_ne, ne_eq, Nat.reduceEqDiff, not_false_eq_true, frame0, List.getD_cons_zero, List.getD_cons_succ]), (by simp only [g10, upd_same, upd_ne, ne_eq, Nat.reduceEqDiff, not_false_eq_true, frame0, List.getD_cons_zero, List.getD_cons_succ]), (by simp only [upd_same, upd_ne, ne_eq, Nat.reduceEqDiff, not_false_eq_true, frame0, List.getD_cons_zero, List.getD_cons_succ]), by simp, by simp only; rw [siftDown_sz _ _ _ (Nat.le_refl _), hd1], he⟩ (by simp only; omega)
  | zero =>
    clear hN
    rw [heapBuild] at he
    simp only [n79, r79, g0, g3, g8, g9, g10, g11, hw1, Int.cast_ofNat_Int, Int.ofNat_eq_natCast, Int.reduceSub, Int.zero_sub, Int.reduceNeg, SB, Nat.reduceLT, callee, aOp, ne_eq, Nat.reduceEqDiff, aBin, aUn, if_true, if_false, reduceCtorEq, frame0, place, notTuple, Nat.reduceAdd, Nat.reduceLeDiff, resVal, dite_true, dite_false, Int.reduceEq, Int.reduceLT, Int.reduceLE]
    refine Ret_rounds (S := Nat × Array Clm) (fun s => s.1) (fun s fr H => s.1 ≤ h ∧ fr 0 = .slice p n cap ∧ fr 3 = .func (.func cl) #[] cs.toArray ∧ fr 8 = .int .i64 (a : Int) ∧ fr 9 = .int .i64 0 ∧ fr 12 = .int .i64 ((s.1 : Int) - 1) ∧
      H = DH encC G B s.2 ++ X ∧ s.2.size = n ∧ T = heapPop (ltC c) a s.1 s.2) (h, d1) ⟨Nat.le_refl _, (by simp only [g0, upd_same, upd_ne, ne_eq, Nat.reduceEqDiff, not_false_eq_true, frame0, List.getD_cons_zero, List.getD_cons_succ]), (by simp only [g3, upd_same, upd_ne, ne_eq, Nat.reduceEqDiff, not_false_eq_true, frame0, List.getD_cons_zero, List.getD_cons_succ]), (by simp only [g8, upd_same, upd_ne, ne_eq, Nat.reduceEqDiff, not_false_eq_true, frame0, List.getD_cons_zero, List.getD_cons_succ]), (by simp only [g9, upd_same, upd_ne, ne_eq, Nat.reduceEqDiff, not_false_eq_true, frame0, List.getD_cons_zero, List.getD_cons_succ]), (by simp only [upd_same, upd_ne, ne_eq, Nat.reduceEqDiff, not_false_eq_true, frame0, List.getD_cons_zero, List.getD_cons_succ]), by simp, hd1, he⟩ ?_
    rintro ⟨k, d2⟩ fr2 H2 ⟨k1, q0, q3, q8, q9, q12, rfl, hd2, hf⟩ hM
    simp only at k1 q12 hd2 hf
    rw [Ret_code l79_1.eq_1]
    cases k with
    | succ k =>
      have hk : ((k + 1 : Nat) : Int) - 1 = (k : Int) := by omega
      rw [hk] at q12
      have hw3 : IntKind.i64.wrap ((k : Int) - 1) = (k : Int) - 1 := wrap_id (by omega) (by omega)
      have hw4 : IntKind.i64.wrap ((a : Int) + (k : Int)) = ((a + k : Nat) : Int) := by rw [wrap_id (by omega) (by omega)]; omega
      have i1 : a < n := by omega
      have i2 : a + k < n := by omega
      have hk1 : k ≤ h := by omega
      have hk0 : (0 : Int) ≤ (k : Int) := by omega
      have hsift0 := fun (X : Heap) (d : Array Clm) (hi : Nat) (hd : d.size = n) (hh : hi ≤ h) Q => hsift X d 0 hi hd hh (Nat.zero_le _) Q
      simp only [show ((0 : Nat) : Int) = 0 from rfl] at hsift0
      simp only [n79, r79, q0, q3, q8, q9, q12, hk0, hw3, hw4, hsift0, hd2, hk1, ld, st, ix, List.append_nil, Array.size_setIfInBounds, encC_len, i1, i2, SB, Nat.reduceLT, callee, aOp, ne_eq, Nat.reduceEqDiff, aBin, aUn, if_true, if_false, reduceCtorEq, frame0, place, notTuple, Nat.reduceAdd, Nat.reduceLeDiff, resVal, dite_true, dite_false, Int.reduceEq, Int.reduceLT, Int.reduceLE]
      refine hM (k, siftDown (ltC c) k a 0 (swp d2 a (a + k))) _ _ ⟨by simp only; omega, (by simp only [q0, upd_same, upd_ne, ne_eq, Nat.reduceEqDiff, not_false_eq_true, frame0, List.getD_cons_zero, List.getD_cons_succ]), (by simp only [q3, upd_same, upd_ne, ne_eq, Nat.reduceEqDiff, not_false_eq_true, frame0, List.getD_cons_zero, List.getD_cons_succ]), (by simp only [q8, upd_same, upd_ne, ne_eq, Nat.reduceEqDiff, not_false_eq_true, frame0, List.getD_cons_zero, List.getD_cons_succ]), (by simp only [q9, upd_same, upd_ne, ne_eq, Nat.reduceEqDiff, not_false_eq_true, frame0, List.getD_cons_zero, List.getD_cons_succ]), (by simp only [upd_same, upd_ne, ne_eq, Nat.reduceEqDiff, not_false_eq_true, frame0, List.getD_cons_zero, List.getD_cons_succ]), by simp [swp], by simp only; rw [siftDown_sz _ _ _ (Nat.le_refl _), swp_sz, hd2], hf⟩ (by simp only; omega)
    | zero =>
      rw [heapPop] at hf
      simp only [n79, r79, q0, q3, q8, q9, q12, hf, Int.reduceSub, Int.zero_sub, Int.reduceNeg, SB, Nat.reduceLT, callee, aOp, ne_eq, Nat.reduceEqDiff, aBin, aUn, if_true, if_false, reduceCtorEq, frame0, place, notTuple, Nat.reduceAdd, Nat.reduceLeDiff, resVal, dite_true, dite_false, Int.reduceEq, Int.reduceLT, Int.reduceLE]
end Go.Proofs.Ytlmoijifgbkapaa.Fn
namespace Go.Proofs.Ytlmoijifgbkapaa.Fn
open Go.AM Go.AM.Sym Go.Sort
set_option maxRecDepth 100000
set_option linter.unusedVariables false
set_option linter.unusedSimpArgs false
set_option maxHeartbeats 4000000

theorem scanUp_step {α : Type} [Inhabited α] {p : α → Bool} {d : Array α} {j i : Nat} (h : i ≤ j) (hp : p d[i]! = true) : scanUp p d j i = scanUp p d j (i + 1) := by
  rw [scanUp]; simp [h, hp]
theorem scanUp_stop {α : Type} [Inhabited α] {p : α → Bool} {d : Array α} {j i : Nat} (h : i ≤ j → p d[i]! = false) : scanUp p d j i = i := by
  rw [scanUp]
  by_cases q : i ≤ j
  · simp [h q]
  · simp [q]
theorem scanDown_step {α : Type} [Inhabited α] {p : α → Bool} {d : Array α} {j i : Nat} (h : i ≤ j) (h0 : 0 < j) (hp : p d[j]! = true) : scanDown p d i j = scanDown p d i (j - 1) := by
  obtain ⟨j, rfl⟩ : ∃ j', j = j' + 1 := ⟨j - 1, by omega⟩
  rw [scanDown]; simp [h, hp]
theorem scanDown_stop {α : Type} [Inhabited α] {p : α → Bool} {d : Array α} {j i : Nat} (h : i ≤ j → p d[j]! = false) : scanDown p d i j = j := by
  cases j with
  | zero => rfl
  | succ j =>
    rw [scanDown]
    by_cases q : i ≤ j + 1
    · simp [h q]
    · simp [q]
theorem partEq_stop {α : Type} [Inhabited α] {lt : α → α → Bool} {a i j i2 j2 : Nat} {d : Array α} (h1 : scanUp (fun x => !lt d[a]! x) d j i = i2) (h2 : scanDown (fun x => lt d[a]! x) d i2 j = j2) (h : i2 > j2) : partEqLoop lt a i j d = (i2, d) := by
  rw [partEqLoop]; simp only [h1, h2]; rw [if_pos h]
theorem partEq_next {α : Type} [Inhabited α] {lt : α → α → Bool} {a i j i2 j2 : Nat} {d : Array α} (h1 : scanUp (fun x => !lt d[a]! x) d j i = i2) (h2 : scanDown (fun x => lt d[a]! x) d i2 j = j2) (h : ¬ i2 > j2) (g1 : i ≤ i2) (g2 : j2 ≤ j) (g3 : 0 < i2) : partEqLoop lt a i j d = partEqLoop lt a (i2 + 1) (j2 - 1) (swp d i2 j2) := by
  rw [partEqLoop]; simp only [h1, h2]; rw [if_neg h, dif_pos (by omega)]

theorem peq_ok {G X : Heap} {B lim cap n : Nat} {p : Option Addr} {c : Clm → Clm → Int} {cl : FuncId} {cs : List Value} {Q : Value → Heap → Prop} (hp : p = some ⟨B, 0, none⟩) (hB : B < G.length) (hl : lim ≤ B) (hn2 : n < 2 ^ 61) (hc : ∀ (mp : Bool) (lim : Nat) (x y : Clm) (H : Heap) (Q : Value → Heap → Prop), CallR E mp lim cl (.agg (encC x).toArray :: .agg (encC y).toArray :: cs) H Q = Q (.int .i64 (c x y)) H) {d : Array Clm} {a b v : Nat} (hd : d.size = n) (hb : b ≤ n) (hab : a ≤ v) (hvb : v < b) :
    CallR E false lim 84 [.slice p n cap, .int .i64 (a : Int), .int .i64 (b : Int), .int .i64 (v : Int), .func (.func cl) #[] cs.toArray] (DH encC G B d ++ X) Q = Q (.int .i64 ((partitionEqual (ltC c) d a b v).1 : Nat)) (DH encC G B (partitionEqual (ltC c) d a b v).2 ++ X) := by
  refine runs (by decide) e84 rfl ?_
  rw [b84, c84]
  have hw0 : IntKind.i64.wrap ((b : Int) - 1) = ((b - 1 : Nat) : Int) := wrap_pred (by omega) (by omega)
  have hw1 : IntKind.i64.wrap ((a : Int) + 1) = ((a + 1 : Nat) : Int) := wrap_nat (by omega)
  generalize hT : partitionEqual (ltC c) d a b v = T
  rw [partitionEqual] at hT
  have ld := fun (i : Nat) (X : Heap) (d : Array Clm) (hd : d.size = n) (hi : i < n) => DH_ld (X := X) (d := d) (i := i) hp hB encC_len (by omega); have st := fun (i : Nat) (X : Heap) (d : Array Clm) (hd : d.size = n) (hi : i < n) (y : Clm) => DH_st (X := X) (d := d) (i := i) (y := y) hp hB hl encC_len (by omega); have ix := fun (i : Nat) (hi : i < n) c (k : IntKind) (H : Heap) => DH_idx (e := 6) (i := i) (n := n) (c := c) (k := k) (H := H) hp hi
  have i1 : a < n := by omega
  have i2 : v < n := by omega
  simp only [n84, r84, hw0, hw1, ld, st, ix, List.append_nil, Array.size_setIfInBounds, encC_len, hd, i1, i2, SB, Nat.reduceLT, callee, aOp, ne_eq, Nat.reduceEqDiff, aBin, aUn, if_true, if_false, reduceCtorEq, frame0, place, notTuple, Nat.reduceAdd, Nat.reduceLeDiff, resVal, dite_true, dite_false, Int.reduceEq, Int.reduceLT, Int.reduceLE]
  refine Ret_rounds (S := (Nat × Nat) × Array Clm) (fun s => s.1.2 + 1 - s.1.1) (fun s fr H => a < s.1.1 ∧ s.1.1 ≤ b ∧ s.1.2 < b ∧ fr 0 = .slice p n cap ∧ fr 1 = .int .i64 (a : Int) ∧ fr 4 = .func (.func cl) #[] cs.toArray ∧ fr 11 = .int .i64 (s.1.1 : Int) ∧ fr 12 = .int .i64 (s.1.2 : Int) ∧
    H = DH encC G B s.2 ++ X ∧ s.2.size = n ∧ T = partEqLoop (ltC c) a s.1.1 s.1.2 s.2) ((a + 1, b - 1), swp d a v) ⟨by simp only; omega, by simp only; omega, by simp only; omega, (by simp only [upd_same, upd_ne, ne_eq, Nat.reduceEqDiff, not_false_eq_true, frame0, List.getD_cons_zero, List.getD_cons_succ]), (by simp only [upd_same, upd_ne, ne_eq, Nat.reduceEqDiff, not_false_eq_true, frame0, List.getD_cons_zero, List.getD_cons_succ]), (by simp only [upd_same, upd_ne, ne_eq, Nat.reduceEqDiff, not_false_eq_true, frame0, List.getD_cons_zero, List.getD_cons_succ]), (by simp only [upd_same, upd_ne, ne_eq, Nat.reduceEqDiff, not_false_eq_true, frame0, List.getD_cons_zero, List.getD_cons_succ]), (by simp only [upd_same, upd_ne, ne_eq, Nat.reduceEqDiff, not_false_eq_true, frame0, List.getD_cons_zero, List.getD_cons_succ]), by simp [swp], by simp [swp, hd], hT.symm⟩ ?_
  rintro ⟨⟨i, j⟩, d1⟩ fr H ⟨h1, h2, h3, g0, g1, g4, g11, g12, rfl, hd1, he⟩ hN
  simp only at h1 h2 h3 g11 g12 hd1 he
  rw [Ret_code l84_3.eq_1]
  simp only [n84, r84, SB, Nat.reduceLT, callee, aOp, ne_eq, Nat.reduceEqDiff, aBin, aUn, if_true, if_false, reduceCtorEq, frame0, place, notTuple, Nat.reduceAdd, Nat.reduceLeDiff, resVal, dite_true, dite_false, Int.reduceEq, Int.reduceLT, Int.reduceLE]
  refine Ret_rounds (S := Nat) (fun s => b + 1 - s) (fun s fr H => i ≤ s ∧ s ≤ b ∧ fr 0 = .slice p n cap ∧ fr 1 = .int .i64 (a : Int) ∧ fr 4 = .func (.func cl) #[] cs.toArray ∧ fr 11 = .int .i64 (s : Int) ∧ fr 12 = .int .i64 (j : Int) ∧
    H = DH encC G B d1 ++ X ∧ scanUp (fun x => !ltC c d1[a]! x) d1 j i = scanUp (fun x => !ltC c d1[a]! x) d1 j s) i ⟨Nat.le_refl _, h2, g0, g1, g4, g11, g12, rfl, rfl⟩ ?_
  rintro i' fr1 H1 ⟨k1, k2, q0, q1, q4, q11, q12, rfl, hs⟩ hM
  rw [Ret_code l84_2.eq_1]
  by_cases c1 : i' ≤ j ∧ ¬ c d1[a]! d1[i']! < 0
  · obtain ⟨c1, c2⟩ := c1
    have hw2 : IntKind.i64.wrap ((i' : Int) + 1) = ((i' + 1 : Nat) : Int) := wrap_nat (by omega)
    have i3 : i' < n := by omega
    simp only [n84, r84, q0, q1, q4, q11, q12, c1, c2, hw2, ld, st, ix, List.append_nil, Array.size_setIfInBounds, encC_len, hd1, i1, i3, hc, SB, Nat.reduceLT, callee, aOp, ne_eq, Nat.reduceEqDiff, aBin, aUn, if_true, if_false, reduceCtorEq, frame0, place, notTuple, Nat.reduceAdd, Nat.reduceLeDiff, resVal, dite_true, dite_false, Int.reduceEq, Int.reduceLT, Int.reduceLE]
    exact hM (i' + 1) _ _ ⟨by omega, by omega, (by simp only [q0, upd_same, upd_ne, ne_eq, Nat.reduceEqDiff, not_false_eq_true, frame0, List.getD_cons_zero, List.getD_cons_succ]), (by simp only [q1, upd_same, upd_ne, ne_eq, Nat.reduceEqDiff, not_false_eq_true, frame0, List.getD_cons_zero, List.getD_cons_succ]), (by simp only [q4, upd_same, upd_ne, ne_eq, Nat.reduceEqDiff, not_false_eq_true, frame0, List.getD_cons_zero, List.getD_cons_succ]), (by simp only [upd_same, upd_ne, ne_eq, Nat.reduceEqDiff, not_false_eq_true, frame0, List.getD_cons_zero, List.getD_cons_succ]), (by simp only [q12, upd_same, upd_ne, ne_eq, Nat.reduceEqDiff, not_false_eq_true, frame0, List.getD_cons_zero, List.getD_cons_succ]), rfl, by rw [hs, scanUp_step c1 (by simp [ltC, c2])]⟩ (by omega)
  have hs2 : scanUp (fun x => !ltC c d1[a]! x) d1 j i = i' := by
    rw [hs, scanUp_stop]
    intro q
    by_cases q2 : c d1[a]! d1[i']! < 0
    · simp [ltC, q2]
    · exact absurd ⟨q, q2⟩ c1
  clear hM
  have hx : (i' ≤ j ∧ c d1[a]! d1[i']! < 0) ∨ ¬ i' ≤ j := by
    by_cases q : i' ≤ j
    · exact .inl ⟨q, Classical.byContradiction fun q2 => c1 ⟨q, q2⟩⟩
    · exact .inr q
  have i0 : i' ≤ j → i' < n := fun q => by omega
  rcases hx with ⟨c2, c3⟩ | c2
  case' inl => simp only [n84, r84, q0, q1, q4, q11, q12, c2, c3, ld, st, ix, List.append_nil, Array.size_setIfInBounds, encC_len, hd1, i1, i0 c2, hc, SB, Nat.reduceLT, callee, aOp, ne_eq, Nat.reduceEqDiff, aBin, aUn, if_true, if_false, reduceCtorEq, frame0, place, notTuple, Nat.reduceAdd, Nat.reduceLeDiff, resVal, dite_true, dite_false, Int.reduceEq, Int.reduceLT, Int.reduceLE]
  case' inr => simp only [n84, r84, q0, q1, q4, q11, q12, c2, ld, st, ix, List.append_nil, Array.size_setIfInBounds, encC_len, SB, Nat.reduceLT, callee, aOp, ne_eq, Nat.reduceEqDiff, aBin, aUn, if_true, if_false, reduceCtorEq, frame0, place, notTuple, Nat.reduceAdd, Nat.reduceLeDiff, resVal, dite_true, dite_false, Int.reduceEq, Int.reduceLT, Int.reduceLE]
  all_goals
    refine Ret_rounds (S := Nat) (fun s => s) (fun s fr H => s ≤ j ∧ fr 0 = .slice p n cap ∧ fr 1 = .int .i64 (a : Int) ∧ fr 4 = .func (.func cl) #[] cs.toArray ∧ fr 11 = .int .i64 (i' : Int) ∧ fr 12 = .int .i64 (s : Int) ∧
      H = DH encC G B d1 ++ X ∧ scanDown (fun x => ltC c d1[a]! x) d1 i' j = scanDown (fun x => ltC c d1[a]! x) d1 i' s) j ⟨Nat.le_refl _, (by simp only [q0, upd_same, upd_ne, ne_eq, Nat.reduceEqDiff, not_false_eq_true, frame0, List.getD_cons_zero, List.getD_cons_succ]), (by simp only [q1, upd_same, upd_ne, ne_eq, Nat.reduceEqDiff, not_false_eq_true, frame0, List.getD_cons_zero, List.getD_cons_succ]), (by simp only [q4, upd_same, upd_ne, ne_eq, Nat.reduceEqDiff, not_false_eq_true, frame0, List.getD_cons_zero, List.getD_cons_succ]), (by simp only [q11, upd_same, upd_ne, ne_eq, Nat.reduceEqDiff, not_false_eq_true, frame0, List.getD_cons_zero, List.getD_cons_succ]), (by simp only [q12, upd_same, upd_ne, ne_eq, Nat.reduceEqDiff, not_false_eq_true, frame0, List.getD_cons_zero, List.getD_cons_succ]), rfl, rfl⟩ ?_
    rintro j' fr2 H2 ⟨m1, p0, p1, p4, p11, p12, rfl, hs'⟩ hM
    rw [Ret_code l84_1.eq_1]
    have i4 : j' < n := by omega
    by_cases c4 : i' ≤ j' ∧ c d1[a]! d1[j']! < 0
    · obtain ⟨c4, c5⟩ := c4
      have hw3 : IntKind.i64.wrap ((j' : Int) - 1) = ((j' - 1 : Nat) : Int) := wrap_pred (by omega) (by omega)
      simp only [n84, r84, p0, p1, p4, p11, p12, c4, c5, hw3, ld, st, ix, List.append_nil, Array.size_setIfInBounds, encC_len, hd1, i1, i4, hc, SB, Nat.reduceLT, callee, aOp, ne_eq, Nat.reduceEqDiff, aBin, aUn, if_true, if_false, reduceCtorEq, frame0, place, notTuple, Nat.reduceAdd, Nat.reduceLeDiff, resVal, dite_true, dite_false, Int.reduceEq, Int.reduceLT, Int.reduceLE]
      exact hM (j' - 1) _ _ ⟨by omega, (by simp only [p0, upd_same, upd_ne, ne_eq, Nat.reduceEqDiff, not_false_eq_true, frame0, List.getD_cons_zero, List.getD_cons_succ]), (by simp only [p1, upd_same, upd_ne, ne_eq, Nat.reduceEqDiff, not_false_eq_true, frame0, List.getD_cons_zero, List.getD_cons_succ]), (by simp only [p4, upd_same, upd_ne, ne_eq, Nat.reduceEqDiff, not_false_eq_true, frame0, List.getD_cons_zero, List.getD_cons_succ]), (by simp only [p11, upd_same, upd_ne, ne_eq, Nat.reduceEqDiff, not_false_eq_true, frame0, List.getD_cons_zero, List.getD_cons_succ]), (by simp only [upd_same, upd_ne, ne_eq, Nat.reduceEqDiff, not_false_eq_true, frame0, List.getD_cons_zero, List.getD_cons_succ]), rfl, by rw [hs', scanDown_step c4 (by omega) (by simp [ltC, c5])]⟩ (by omega)
    have hs3 : scanDown (fun x => ltC c d1[a]! x) d1 i' j = j' := by
      rw [hs', scanDown_stop]
      intro q
      have q2 : ¬ c d1[a]! d1[j']! < 0 := fun q2 => c4 ⟨q, q2⟩
      simp [ltC, q2]
    clear hM
    by_cases c6 : j' < i'
    · have c7 : ¬ i' ≤ j' := by omega
      rw [partEq_stop hs2 hs3 c6] at he
      simp only [n84, r84, p0, p1, p4, p11, p12, c7, c6, ld, st, ix, List.append_nil, Array.size_setIfInBounds, encC_len, he, SB, Nat.reduceLT, callee, aOp, ne_eq, Nat.reduceEqDiff, aBin, aUn, if_true, if_false, reduceCtorEq, frame0, place, notTuple, Nat.reduceAdd, Nat.reduceLeDiff, resVal, dite_true, dite_false, Int.reduceEq, Int.reduceLT, Int.reduceLE]
    · have c7 : i' ≤ j' := by omega
      have c8 : ¬ c d1[a]! d1[j']! < 0 := fun q => c4 ⟨c7, q⟩
      rw [partEq_next hs2 hs3 c6 k1 m1 (by omega)] at he
      have i5 : i' < n := by omega
      have hw3 : IntKind.i64.wrap ((j' : Int) - 1) = ((j' - 1 : Nat) : Int) := wrap_pred (by omega) (by omega)
      have hw4 : IntKind.i64.wrap ((i' : Int) + 1) = ((i' + 1 : Nat) : Int) := wrap_nat (by omega)
      simp only [n84, r84, p0, p1, p4, p11, p12, c7, c6, c8, hw3, hw4, ld, st, ix, List.append_nil, Array.size_setIfInBounds, encC_len, hd1, i1, i4, i5, hc, SB, Nat.reduceLT, callee, aOp, ne_eq, Nat.reduceEqDiff, aBin, aUn, if_true, if_false, reduceCtorEq, frame0, place, notTuple, Nat.reduceAdd, Nat.reduceLeDiff, resVal, dite_true, dite_false, Int.reduceEq, Int.reduceLT, Int.reduceLE]
      exact hN ((i' + 1, j' - 1), swp d1 i' j') _ _ ⟨by simp only; omega, by simp only; omega, by simp only; omega, (by simp only [p0, upd_same, upd_ne, ne_eq, Nat.reduceEqDiff, not_false_eq_true, frame0, List.getD_cons_zero, List.getD_cons_succ]), (by simp only [p1, upd_same, upd_ne, ne_eq, Nat.reduceEqDiff, not_false_eq_true, frame0, List.getD_cons_zero, List.getD_cons_succ]), (by simp only [p4, upd_same, upd_ne, ne_eq, Nat.reduceEqDiff, not_false_eq_true, frame0, List.getD_cons_zero, List.getD_cons_succ]), (by simp only [upd_same, upd_ne, ne_eq, Nat.reduceEqDiff, not_false_eq_true, frame0, List.getD_cons_zero, List.getD_cons_succ]), (by simp only [upd_same, upd_ne, ne_eq, Nat.reduceEqDiff, not_false_eq_true, frame0, List.getD_cons_zero, List.getD_cons_succ]), by simp [swp], by simp [swp, hd1], he⟩ (by simp only; omega)
end Go.Proofs.Ytlmoijifgbkapaa.Fn
namespace Go.Proofs.Ytlmoijifgbkapaa.Fn
open Go.AM Go.AM.Sym Go.Sort
set_option maxRecDepth 100000
set_option linter.unusedVariables false
set_option linter.unusedSimpArgs false
set_option maxHeartbeats 4000000

theorem part_stop {α : Type} [Inhabited α] {lt : α → α → Bool} {a i j i2 j2 : Nat} {d : Array α} (h1 : scanUp (fun x => lt x d[a]!) d j i = i2) (h2 : scanDown (fun x => !lt x d[a]!) d i2 j = j2) (h : i2 > j2) : partLoop lt a i j d = (j2, d) := by
  rw [partLoop]; simp only [h1, h2]; rw [if_pos h]
theorem part_next {α : Type} [Inhabited α] {lt : α → α → Bool} {a i j i2 j2 : Nat} {d : Array α} (h1 : scanUp (fun x => lt x d[a]!) d j i = i2) (h2 : scanDown (fun x => !lt x d[a]!) d i2 j = j2) (h : ¬ i2 > j2) (g1 : i ≤ i2) (g2 : j2 ≤ j) (g3 : 0 < i2) : partLoop lt a i j d = partLoop lt a (i2 + 1) (j2 - 1) (swp d i2 j2) := by
  rw [partLoop]; simp only [h1, h2]; rw [if_neg h, dif_pos (by omega)]

theorem part_sort {G X : Heap} {B lim cap n : Nat} {p : Option Addr} {c : Clm → Clm → Int} {cl : FuncId} {cs : List Value} {Q : Value → Heap → Prop} (hp : p = some ⟨B, 0, none⟩) (hB : B < G.length) (hl : lim ≤ B) (hn2 : n < 2 ^ 61) (hc : ∀ (mp : Bool) (lim : Nat) (x y : Clm) (H : Heap) (Q : Value → Heap → Prop), CallR E mp lim cl (.agg (encC x).toArray :: .agg (encC y).toArray :: cs) H Q = Q (.int .i64 (c x y)) H) {d : Array Clm} {a b v : Nat} (hd : d.size = n) (hb : b ≤ n) (hab : a ≤ v) (hvb : v < b) :
    CallR E false lim 85 [.slice p n cap, .int .i64 (a : Int), .int .i64 (b : Int), .int .i64 (v : Int), .func (.func cl) #[] cs.toArray] (DH encC G B d ++ X) Q = Q (.tuple #[.int .i64 ((Sort.partition (ltC c) d a b v).1 : Nat), .bool (Sort.partition (ltC c) d a b v).2.1]) (DH encC G B (Sort.partition (ltC c) d a b v).2.2 ++ X) := by
  refine runs (by decide) e85 rfl ?_
  rw [b85, c85]
  have hw0 : IntKind.i64.wrap ((b : Int) - 1) = ((b - 1 : Nat) : Int) := wrap_pred (by omega) (by omega)
  have hw1 : IntKind.i64.wrap ((a : Int) + 1) = ((a + 1 : Nat) : Int) := wrap_nat (by omega)
  generalize hT : Sort.partition (ltC c) d a b v = T
  rw [Sort.partition] at hT
  have ld := fun (i : Nat) (X : Heap) (d : Array Clm) (hd : d.size = n) (hi : i < n) => DH_ld (X := X) (d := d) (i := i) hp hB encC_len (by omega); have st := fun (i : Nat) (X : Heap) (d : Array Clm) (hd : d.size = n) (hi : i < n) (y : Clm) => DH_st (X := X) (d := d) (i := i) (y := y) hp hB hl encC_len (by omega); have ix := fun (i : Nat) (hi : i < n) c (k : IntKind) (H : Heap) => DH_idx (e := 6) (i := i) (n := n) (c := c) (k := k) (H := H) hp hi
  have i1 : a < n := by omega
  have i2 : v < n := by omega
  simp only [n85, r85, hw0, hw1, ld, st, ix, List.append_nil, Array.size_setIfInBounds, encC_len, hd, i1, i2, SB, Nat.reduceLT, callee, aOp, ne_eq, Nat.reduceEqDiff, aBin, aUn, if_true, if_false, reduceCtorEq, frame0, place, notTuple, Nat.reduceAdd, Nat.reduceLeDiff, resVal, dite_true, dite_false, Int.reduceEq, Int.reduceLT, Int.reduceLE]
  have hd0 : (swp d a v).size = n := by simp [swp, hd]
  have hswp : (d.setIfInBounds a d[v]!).setIfInBounds v d[a]! = swp d a v := rfl
  rw [hswp]
  generalize swp d a v = d1 at hT hd0
  have k0 : a + 1 ≤ b := by omega
  refine Ret_rounds (S := Nat) (fun s => b + 1 - s) (fun s fr H => (a + 1) ≤ s ∧ s ≤ (b - 1) + 1 ∧ fr 0 = .slice p n cap ∧ fr 1 = .int .i64 (a : Int) ∧ fr 4 = .func (.func cl) #[] cs.toArray ∧ fr 12 = .int .i64 (s : Int) ∧ fr 13 = .int .i64 ((b - 1 : Nat) : Int) ∧
    H = DH encC G B d1 ++ X ∧ scanUp (fun x => ltC c x d1[a]!) d1 (b - 1) (a + 1) = scanUp (fun x => ltC c x d1[a]!) d1 (b - 1) s) (a + 1) ⟨Nat.le_refl _, by omega, (by simp only [upd_same, upd_ne, ne_eq, Nat.reduceEqDiff, not_false_eq_true, frame0, List.getD_cons_zero, List.getD_cons_succ]), (by simp only [upd_same, upd_ne, ne_eq, Nat.reduceEqDiff, not_false_eq_true, frame0, List.getD_cons_zero, List.getD_cons_succ]), (by simp only [upd_same, upd_ne, ne_eq, Nat.reduceEqDiff, not_false_eq_true, frame0, List.getD_cons_zero, List.getD_cons_succ]), (by simp only [upd_same, upd_ne, ne_eq, Nat.reduceEqDiff, not_false_eq_true, frame0, List.getD_cons_zero, List.getD_cons_succ]), (by simp only [upd_same, upd_ne, ne_eq, Nat.reduceEqDiff, not_false_eq_true, frame0, List.getD_cons_zero, List.getD_cons_succ]), rfl, rfl⟩ ?_
  rintro i' fr1 H1 ⟨x1, k2, q0, q1, q4, q12, q13, rfl, hs⟩ hM
  rw [Ret_code l85_5.eq_1]
  by_cases c1 : i' ≤ (b - 1) ∧ c d1[i']! d1[a]! < 0
  · obtain ⟨cc1, cc2⟩ := c1
    have hw2 : IntKind.i64.wrap ((i' : Int) + 1) = ((i' + 1 : Nat) : Int) := wrap_nat (by omega)
    have i3 : i' < n := by omega
    simp only [n85, r85, q0, q1, q4, q12, q13, cc1, cc2, hw2, ld, st, ix, List.append_nil, Array.size_setIfInBounds, encC_len, hd0, i1, i3, hc, SB, Nat.reduceLT, callee, aOp, ne_eq, Nat.reduceEqDiff, aBin, aUn, if_true, if_false, reduceCtorEq, frame0, place, notTuple, Nat.reduceAdd, Nat.reduceLeDiff, resVal, dite_true, dite_false, Int.reduceEq, Int.reduceLT, Int.reduceLE]
    exact hM (i' + 1) _ _ ⟨by omega, by omega, (by simp only [q0, upd_same, upd_ne, ne_eq, Nat.reduceEqDiff, not_false_eq_true, frame0, List.getD_cons_zero, List.getD_cons_succ]), (by simp only [q1, upd_same, upd_ne, ne_eq, Nat.reduceEqDiff, not_false_eq_true, frame0, List.getD_cons_zero, List.getD_cons_succ]), (by simp only [q4, upd_same, upd_ne, ne_eq, Nat.reduceEqDiff, not_false_eq_true, frame0, List.getD_cons_zero, List.getD_cons_succ]), (by simp only [upd_same, upd_ne, ne_eq, Nat.reduceEqDiff, not_false_eq_true, frame0, List.getD_cons_zero, List.getD_cons_succ]), (by simp only [q13, upd_same, upd_ne, ne_eq, Nat.reduceEqDiff, not_false_eq_true, frame0, List.getD_cons_zero, List.getD_cons_succ]), rfl, by rw [hs, scanUp_step cc1 (by simp [ltC, cc2])]⟩ (by omega)
  have hs2 : scanUp (fun x => ltC c x d1[a]!) d1 (b - 1) (a + 1) = i' := by
    rw [hs, scanUp_stop]
    intro q
    have q2 : ¬ c d1[i']! d1[a]! < 0 := fun q2 => c1 ⟨q, q2⟩
    simp [ltC, q2]
  clear hM
  have hx : (i' ≤ (b - 1) ∧ ¬ c d1[i']! d1[a]! < 0) ∨ ¬ i' ≤ (b - 1) := by
    by_cases q : i' ≤ (b - 1)
    · exact .inl ⟨q, fun q2 => c1 ⟨q, q2⟩⟩
    · exact .inr q
  have i0 : i' ≤ (b - 1) → i' < n := fun q => by omega
  have hxx := hx
  rcases hx with ⟨cc2, cc3⟩ | cc2
  case' inl => simp only [n85, r85, q0, q1, q4, q12, q13, cc2, cc3, ld, st, ix, List.append_nil, Array.size_setIfInBounds, encC_len, hd0, i1, i0 cc2, hc, SB, Nat.reduceLT, callee, aOp, ne_eq, Nat.reduceEqDiff, aBin, aUn, if_true, if_false, reduceCtorEq, frame0, place, notTuple, Nat.reduceAdd, Nat.reduceLeDiff, resVal, dite_true, dite_false, Int.reduceEq, Int.reduceLT, Int.reduceLE]
  case' inr => simp only [n85, r85, q0, q1, q4, q12, q13, cc2, ld, st, ix, List.append_nil, Array.size_setIfInBounds, encC_len, SB, Nat.reduceLT, callee, aOp, ne_eq, Nat.reduceEqDiff, aBin, aUn, if_true, if_false, reduceCtorEq, frame0, place, notTuple, Nat.reduceAdd, Nat.reduceLeDiff, resVal, dite_true, dite_false, Int.reduceEq, Int.reduceLT, Int.reduceLE]
  all_goals
    clear cc2
    refine Ret_rounds (S := Nat) (fun s => s) (fun s fr H => s ≤ (b - 1) ∧ i' ≤ s + 1 ∧ fr 0 = .slice p n cap ∧ fr 1 = .int .i64 (a : Int) ∧ fr 4 = .func (.func cl) #[] cs.toArray ∧ fr 12 = .int .i64 (i' : Int) ∧ fr 13 = .int .i64 (s : Int) ∧
      H = DH encC G B d1 ++ X ∧ scanDown (fun x => !ltC c x d1[a]!) d1 i' (b - 1) = scanDown (fun x => !ltC c x d1[a]!) d1 i' s) (b - 1) ⟨Nat.le_refl _, by omega, (by simp only [q0, upd_same, upd_ne, ne_eq, Nat.reduceEqDiff, not_false_eq_true, frame0, List.getD_cons_zero, List.getD_cons_succ]), (by simp only [q1, upd_same, upd_ne, ne_eq, Nat.reduceEqDiff, not_false_eq_true, frame0, List.getD_cons_zero, List.getD_cons_succ]), (by simp only [q4, upd_same, upd_ne, ne_eq, Nat.reduceEqDiff, not_false_eq_true, frame0, List.getD_cons_zero, List.getD_cons_succ]), (by simp only [q12, upd_same, upd_ne, ne_eq, Nat.reduceEqDiff, not_false_eq_true, frame0, List.getD_cons_zero, List.getD_cons_succ]), (by simp only [q13, upd_same, upd_ne, ne_eq, Nat.reduceEqDiff, not_false_eq_true, frame0, List.getD_cons_zero, List.getD_cons_succ]), rfl, rfl⟩ ?_
    rintro j' fr2 H2 ⟨y1, y2, p0, p1, p4, p12, p13, rfl, hs'⟩ hM
    rw [Ret_code l85_4.eq_1]
    have i4 : j' < n := by omega
    by_cases c4 : i' ≤ j' ∧ ¬ c d1[j']! d1[a]! < 0
    · obtain ⟨cc4, cc5⟩ := c4
      have hw3 : IntKind.i64.wrap ((j' : Int) - 1) = ((j' - 1 : Nat) : Int) := wrap_pred (by omega) (by omega)
      simp only [n85, r85, p0, p1, p4, p12, p13, cc4, cc5, hw3, ld, st, ix, List.append_nil, Array.size_setIfInBounds, encC_len, hd0, i1, i4, hc, SB, Nat.reduceLT, callee, aOp, ne_eq, Nat.reduceEqDiff, aBin, aUn, if_true, if_false, reduceCtorEq, frame0, place, notTuple, Nat.reduceAdd, Nat.reduceLeDiff, resVal, dite_true, dite_false, Int.reduceEq, Int.reduceLT, Int.reduceLE]
      exact hM (j' - 1) _ _ ⟨by omega, by omega, (by simp only [p0, upd_same, upd_ne, ne_eq, Nat.reduceEqDiff, not_false_eq_true, frame0, List.getD_cons_zero, List.getD_cons_succ]), (by simp only [p1, upd_same, upd_ne, ne_eq, Nat.reduceEqDiff, not_false_eq_true, frame0, List.getD_cons_zero, List.getD_cons_succ]), (by simp only [p4, upd_same, upd_ne, ne_eq, Nat.reduceEqDiff, not_false_eq_true, frame0, List.getD_cons_zero, List.getD_cons_succ]), (by simp only [p12, upd_same, upd_ne, ne_eq, Nat.reduceEqDiff, not_false_eq_true, frame0, List.getD_cons_zero, List.getD_cons_succ]), (by simp only [upd_same, upd_ne, ne_eq, Nat.reduceEqDiff, not_false_eq_true, frame0, List.getD_cons_zero, List.getD_cons_succ]), rfl, by rw [hs', scanDown_step cc4 (by omega) (by simp [ltC, cc5])]⟩ (by omega)
    have hs3 : scanDown (fun x => !ltC c x d1[a]!) d1 i' (b - 1) = j' := by
      rw [hs', scanDown_stop]
      intro q
      have q2 : c d1[j']! d1[a]! < 0 := Classical.byContradiction fun q2 => c4 ⟨q, q2⟩
      simp [ltC, q2]
    clear hM
    by_cases c6 : j' < i'
    · have c7 : ¬ i' ≤ j' := by omega
      have i6 : j' < n := by omega
      simp only [hs2, hs3] at hT
      rw [if_pos (show i' > j' from c6)] at hT
      simp only [n85, r85, p0, p1, p4, p12, p13, c7, c6, ld, st, ix, List.append_nil, Array.size_setIfInBounds, encC_len, hd0, i1, i6, SB, Nat.reduceLT, callee, aOp, ne_eq, Nat.reduceEqDiff, aBin, aUn, if_true, if_false, reduceCtorEq, frame0, place, notTuple, Nat.reduceAdd, Nat.reduceLeDiff, resVal, dite_true, dite_false, Int.reduceEq, Int.reduceLT, Int.reduceLE]
      rw [← hT]
      exact ⟨rfl, rfl⟩
    · have c7 : i' ≤ j' := by omega
      have c8 : c d1[j']! d1[a]! < 0 := Classical.byContradiction fun q => c4 ⟨c7, q⟩
      have c9 : i' ≠ j' := by
        rintro rfl
        rcases hxx with q | q
        · exact q.2 c8
        · exact q (by omega)
      simp only [hs2, hs3] at hT
      rw [if_neg (show ¬ i' > j' from c6)] at hT
      have i5 : i' < n := by omega
      have i6 : j' < n := by omega
      have hw3 : IntKind.i64.wrap ((j' : Int) - 1) = ((j' - 1 : Nat) : Int) := wrap_pred (by omega) (by omega)
      have hw4 : IntKind.i64.wrap ((i' : Int) + 1) = ((i' + 1 : Nat) : Int) := wrap_nat (by omega)
      simp only [n85, r85, p0, p1, p4, p12, p13, c7, c6, c8, hw3, hw4, ld, st, ix, List.append_nil, Array.size_setIfInBounds, encC_len, hd0, i1, i6, i5, hc, SB, Nat.reduceLT, callee, aOp, ne_eq, Nat.reduceEqDiff, aBin, aUn, if_true, if_false, reduceCtorEq, frame0, place, notTuple, Nat.reduceAdd, Nat.reduceLeDiff, resVal, dite_true, dite_false, Int.reduceEq, Int.reduceLT, Int.reduceLE]
      generalize hL : partLoop (ltC c) a (i' + 1) (j' - 1) (swp d1 i' j') = L at hT
      refine Ret_rounds (S := (Nat × Nat) × Array Clm) (fun s => s.1.2 + 1 - s.1.1) (fun s fr H => a < s.1.1 ∧ s.1.1 ≤ s.1.2 + 1 ∧ s.1.2 < b ∧ fr 0 = .slice p n cap ∧ fr 1 = .int .i64 (a : Int) ∧ fr 4 = .func (.func cl) #[] cs.toArray ∧ fr 12 = .int .i64 (s.1.1 : Int) ∧ fr 13 = .int .i64 (s.1.2 : Int) ∧
        H = DH encC G B s.2 ++ X ∧ s.2.size = n ∧ L = partLoop (ltC c) a s.1.1 s.1.2 s.2) ((i' + 1, j' - 1), swp d1 i' j') ⟨by simp only; omega, by simp only; omega, by simp only; omega, (by simp only [p0, upd_same, upd_ne, ne_eq, Nat.reduceEqDiff, not_false_eq_true, frame0, List.getD_cons_zero, List.getD_cons_succ]), (by simp only [p1, upd_same, upd_ne, ne_eq, Nat.reduceEqDiff, not_false_eq_true, frame0, List.getD_cons_zero, List.getD_cons_succ]), (by simp only [p4, upd_same, upd_ne, ne_eq, Nat.reduceEqDiff, not_false_eq_true, frame0, List.getD_cons_zero, List.getD_cons_succ]), (by simp only [upd_same, upd_ne, ne_eq, Nat.reduceEqDiff, not_false_eq_true, frame0, List.getD_cons_zero, List.getD_cons_succ]), (by simp only [upd_same, upd_ne, ne_eq, Nat.reduceEqDiff, not_false_eq_true, frame0, List.getD_cons_zero, List.getD_cons_succ]), by simp [swp], by simp [swp, hd0], hL.symm⟩ ?_
      clear hs2 hs3 hs hs' c1 c4 hxx i0 hL
      rintro ⟨⟨i, j⟩, d2⟩ fr H ⟨h1, h2, h3, g0, g1, g4, g12, g13, rfl, hd2, he⟩ hN
      simp only at h1 h2 h3 g12 g13 hd2 he
      rw [Ret_code l85_3.eq_1]
      simp only [n85, r85, SB, Nat.reduceLT, callee, aOp, ne_eq, Nat.reduceEqDiff, aBin, aUn, if_true, if_false, reduceCtorEq, frame0, place, notTuple, Nat.reduceAdd, Nat.reduceLeDiff, resVal, dite_true, dite_false, Int.reduceEq, Int.reduceLT, Int.reduceLE]
      refine Ret_rounds (S := Nat) (fun s => b + 1 - s) (fun s fr H => i ≤ s ∧ s ≤ j + 1 ∧ fr 0 = .slice p n cap ∧ fr 1 = .int .i64 (a : Int) ∧ fr 4 = .func (.func cl) #[] cs.toArray ∧ fr 12 = .int .i64 (s : Int) ∧ fr 13 = .int .i64 (j : Int) ∧
        H = DH encC G B d2 ++ X ∧ scanUp (fun u => ltC c u d2[a]!) d2 j i = scanUp (fun u => ltC c u d2[a]!) d2 j s) i ⟨Nat.le_refl _, by omega, g0, g1, g4, g12, g13, rfl, rfl⟩ ?_
      rintro x fr1 H1 ⟨x1, k2, q0, q1, q4, q12, q13, rfl, us⟩ hM
      rw [Ret_code l85_2.eq_1]
      by_cases z1 : x ≤ j ∧ c d2[x]! d2[a]! < 0
      · obtain ⟨cc1, cc2⟩ := z1
        have hw2 : IntKind.i64.wrap ((x : Int) + 1) = ((x + 1 : Nat) : Int) := wrap_nat (by omega)
        have i3 : x < n := by omega
        simp only [n85, r85, q0, q1, q4, q12, q13, cc1, cc2, hw2, ld, st, ix, List.append_nil, Array.size_setIfInBounds, encC_len, hd2, i1, i3, hc, SB, Nat.reduceLT, callee, aOp, ne_eq, Nat.reduceEqDiff, aBin, aUn, if_true, if_false, reduceCtorEq, frame0, place, notTuple, Nat.reduceAdd, Nat.reduceLeDiff, resVal, dite_true, dite_false, Int.reduceEq, Int.reduceLT, Int.reduceLE]
        exact hM (x + 1) _ _ ⟨by omega, by omega, (by simp only [q0, upd_same, upd_ne, ne_eq, Nat.reduceEqDiff, not_false_eq_true, frame0, List.getD_cons_zero, List.getD_cons_succ]), (by simp only [q1, upd_same, upd_ne, ne_eq, Nat.reduceEqDiff, not_false_eq_true, frame0, List.getD_cons_zero, List.getD_cons_succ]), (by simp only [q4, upd_same, upd_ne, ne_eq, Nat.reduceEqDiff, not_false_eq_true, frame0, List.getD_cons_zero, List.getD_cons_succ]), (by simp only [upd_same, upd_ne, ne_eq, Nat.reduceEqDiff, not_false_eq_true, frame0, List.getD_cons_zero, List.getD_cons_succ]), (by simp only [q13, upd_same, upd_ne, ne_eq, Nat.reduceEqDiff, not_false_eq_true, frame0, List.getD_cons_zero, List.getD_cons_succ]), rfl, by rw [us, scanUp_step cc1 (by simp [ltC, cc2])]⟩ (by omega)
      have us2 : scanUp (fun u => ltC c u d2[a]!) d2 j i = x := by
        rw [us, scanUp_stop]
        intro q
        have q2 : ¬ c d2[x]! d2[a]! < 0 := fun q2 => z1 ⟨q, q2⟩
        simp [ltC, q2]
      clear hM
      have hz : (x ≤ j ∧ ¬ c d2[x]! d2[a]! < 0) ∨ ¬ x ≤ j := by
        by_cases q : x ≤ j
        · exact .inl ⟨q, fun q2 => z1 ⟨q, q2⟩⟩
        · exact .inr q
      have i0 : x ≤ j → x < n := fun q => by omega
      have hzz := hz
      rcases hz with ⟨cc2, cc3⟩ | cc2
      case' inl => simp only [n85, r85, q0, q1, q4, q12, q13, cc2, cc3, ld, st, ix, List.append_nil, Array.size_setIfInBounds, encC_len, hd2, i1, i0 cc2, hc, SB, Nat.reduceLT, callee, aOp, ne_eq, Nat.reduceEqDiff, aBin, aUn, if_true, if_false, reduceCtorEq, frame0, place, notTuple, Nat.reduceAdd, Nat.reduceLeDiff, resVal, dite_true, dite_false, Int.reduceEq, Int.reduceLT, Int.reduceLE]
      case' inr => simp only [n85, r85, q0, q1, q4, q12, q13, cc2, ld, st, ix, List.append_nil, Array.size_setIfInBounds, encC_len, SB, Nat.reduceLT, callee, aOp, ne_eq, Nat.reduceEqDiff, aBin, aUn, if_true, if_false, reduceCtorEq, frame0, place, notTuple, Nat.reduceAdd, Nat.reduceLeDiff, resVal, dite_true, dite_false, Int.reduceEq, Int.reduceLT, Int.reduceLE]
      all_goals
        clear cc2
        refine Ret_rounds (S := Nat) (fun s => s) (fun s fr H => s ≤ j ∧ x ≤ s + 1 ∧ fr 0 = .slice p n cap ∧ fr 1 = .int .i64 (a : Int) ∧ fr 4 = .func (.func cl) #[] cs.toArray ∧ fr 12 = .int .i64 (x : Int) ∧ fr 13 = .int .i64 (s : Int) ∧
          H = DH encC G B d2 ++ X ∧ scanDown (fun u => !ltC c u d2[a]!) d2 x j = scanDown (fun u => !ltC c u d2[a]!) d2 x s) j ⟨Nat.le_refl _, by omega, (by simp only [q0, upd_same, upd_ne, ne_eq, Nat.reduceEqDiff, not_false_eq_true, frame0, List.getD_cons_zero, List.getD_cons_succ]), (by simp only [q1, upd_same, upd_ne, ne_eq, Nat.reduceEqDiff, not_false_eq_true, frame0, List.getD_cons_zero, List.getD_cons_succ]), (by simp only [q4, upd_same, upd_ne, ne_eq, Nat.reduceEqDiff, not_false_eq_true, frame0, List.getD_cons_zero, List.getD_cons_succ]), (by simp only [q12, upd_same, upd_ne, ne_eq, Nat.reduceEqDiff, not_false_eq_true, frame0, List.getD_cons_zero, List.getD_cons_succ]), (by simp only [q13, upd_same, upd_ne, ne_eq, Nat.reduceEqDiff, not_false_eq_true, frame0, List.getD_cons_zero, List.getD_cons_succ]), rfl, rfl⟩ ?_
        rintro y fr2 H2 ⟨y1, y2, t0, t1, t4, t12, t13, rfl, us'⟩ hM
        rw [Ret_code l85_1.eq_1]
        have i4 : y < n := by omega
        by_cases z4 : x ≤ y ∧ ¬ c d2[y]! d2[a]! < 0
        · obtain ⟨cc4, cc5⟩ := z4
          have hw3 : IntKind.i64.wrap ((y : Int) - 1) = ((y - 1 : Nat) : Int) := wrap_pred (by omega) (by omega)
          simp only [n85, r85, t0, t1, t4, t12, t13, cc4, cc5, hw3, ld, st, ix, List.append_nil, Array.size_setIfInBounds, encC_len, hd2, i1, i4, hc, SB, Nat.reduceLT, callee, aOp, ne_eq, Nat.reduceEqDiff, aBin, aUn, if_true, if_false, reduceCtorEq, frame0, place, notTuple, Nat.reduceAdd, Nat.reduceLeDiff, resVal, dite_true, dite_false, Int.reduceEq, Int.reduceLT, Int.reduceLE]
          exact hM (y - 1) _ _ ⟨by omega, by omega, (by simp only [t0, upd_same, upd_ne, ne_eq, Nat.reduceEqDiff, not_false_eq_true, frame0, List.getD_cons_zero, List.getD_cons_succ]), (by simp only [t1, upd_same, upd_ne, ne_eq, Nat.reduceEqDiff, not_false_eq_true, frame0, List.getD_cons_zero, List.getD_cons_succ]), (by simp only [t4, upd_same, upd_ne, ne_eq, Nat.reduceEqDiff, not_false_eq_true, frame0, List.getD_cons_zero, List.getD_cons_succ]), (by simp only [t12, upd_same, upd_ne, ne_eq, Nat.reduceEqDiff, not_false_eq_true, frame0, List.getD_cons_zero, List.getD_cons_succ]), (by simp only [upd_same, upd_ne, ne_eq, Nat.reduceEqDiff, not_false_eq_true, frame0, List.getD_cons_zero, List.getD_cons_succ]), rfl, by rw [us', scanDown_step cc4 (by omega) (by simp [ltC, cc5])]⟩ (by omega)
        have us3 : scanDown (fun u => !ltC c u d2[a]!) d2 x j = y := by
          rw [us', scanDown_stop]
          intro q
          have q2 : c d2[y]! d2[a]! < 0 := Classical.byContradiction fun q2 => z4 ⟨q, q2⟩
          simp [ltC, q2]
        clear hM
        by_cases z6 : y < x
        · have z7 : ¬ x ≤ y := by omega
          have i6 : y < n := by omega
          rw [part_stop us2 us3 z6] at he
          simp only [n85, r85, t0, t1, t4, t12, t13, z7, z6, ld, st, ix, List.append_nil, Array.size_setIfInBounds, encC_len, hd2, i1, i6, SB, Nat.reduceLT, callee, aOp, ne_eq, Nat.reduceEqDiff, aBin, aUn, if_true, if_false, reduceCtorEq, frame0, place, notTuple, Nat.reduceAdd, Nat.reduceLeDiff, resVal, dite_true, dite_false, Int.reduceEq, Int.reduceLT, Int.reduceLE]
          rw [← hT, he]
          exact ⟨rfl, rfl⟩
        · have z7 : x ≤ y := by omega
          have z8 : c d2[y]! d2[a]! < 0 := Classical.byContradiction fun q => z4 ⟨z7, q⟩
          have z9 : x ≠ y := by
            rintro rfl
            rcases hzz with q | q
            · exact q.2 z8
            · exact q (by omega)
          rw [part_next us2 us3 z6 x1 y1 (by omega)] at he
          have i5 : x < n := by omega
          have i6 : y < n := by omega
          have hw5 : IntKind.i64.wrap ((y : Int) - 1) = ((y - 1 : Nat) : Int) := wrap_pred (by omega) (by omega)
          have hw6 : IntKind.i64.wrap ((x : Int) + 1) = ((x + 1 : Nat) : Int) := wrap_nat (by omega)
          simp only [n85, r85, t0, t1, t4, t12, t13, z7, z6, z8, hw5, hw6, ld, st, ix, List.append_nil, Array.size_setIfInBounds, encC_len, hd2, i1, i6, i5, hc, SB, Nat.reduceLT, callee, aOp, ne_eq, Nat.reduceEqDiff, aBin, aUn, if_true, if_false, reduceCtorEq, frame0, place, notTuple, Nat.reduceAdd, Nat.reduceLeDiff, resVal, dite_true, dite_false, Int.reduceEq, Int.reduceLT, Int.reduceLE]
          exact hN ((x + 1, y - 1), swp d2 x y) _ _ ⟨by simp only; omega, by simp only; omega, by simp only; omega, (by simp only [t0, upd_same, upd_ne, ne_eq, Nat.reduceEqDiff, not_false_eq_true, frame0, List.getD_cons_zero, List.getD_cons_succ]), (by simp only [t1, upd_same, upd_ne, ne_eq, Nat.reduceEqDiff, not_false_eq_true, frame0, List.getD_cons_zero, List.getD_cons_succ]), (by simp only [t4, upd_same, upd_ne, ne_eq, Nat.reduceEqDiff, not_false_eq_true, frame0, List.getD_cons_zero, List.getD_cons_succ]), (by simp only [upd_same, upd_ne, ne_eq, Nat.reduceEqDiff, not_false_eq_true, frame0, List.getD_cons_zero, List.getD_cons_succ]), (by simp only [upd_same, upd_ne, ne_eq, Nat.reduceEqDiff, not_false_eq_true, frame0, List.getD_cons_zero, List.getD_cons_succ]), by simp [swp], by simp [swp, hd2], he⟩ (by simp only; omega)
end Go.Proofs.Ytlmoijifgbkapaa.Fn
namespace Go.Proofs.Ytlmoijifgbkapaa.Fn
open Go.AM Go.AM.Sym Go.Sort
set_option maxRecDepth 100000
set_option linter.unusedVariables false
set_option linter.unusedSimpArgs false
set_option maxHeartbeats 4000000

theorem scanS_step {α : Type} [Inhabited α] {lt : α → α → Bool} {d : Array α} {b i : Nat} (h : i < b) (hp : lt d[i]! d[i - 1]! = false) : scanSorted lt d b i = scanSorted lt d b (i + 1) := by
  rw [scanSorted]; simp [h, hp]
theorem scanS_stop {α : Type} [Inhabited α] {lt : α → α → Bool} {d : Array α} {b i : Nat} (h : i < b → lt d[i]! d[i - 1]! = true) : scanSorted lt d b i = i := by
  rw [scanSorted]
  by_cases q : i < b
  · simp [h q]
  · simp [q]
def fixDownC {α : Type} [Inhabited α] (lt : α → α → Bool) (a i : Nat) (d : Array α) : Array α := if 2 ≤ i - a then shiftDown lt (i - 1) d else d
def fixUpC {α : Type} [Inhabited α] (lt : α → α → Bool) (b i : Nat) (d : Array α) : Array α := if 2 ≤ b - i then shiftUp lt b (i + 1) d else d
theorem partialIns_more {α : Type} [Inhabited α] {lt : α → α → Bool} {a b k i i' : Nat} {d : Array α} (hs : scanSorted lt d b i = i') (h1 : ¬ i' = b) (h2 : ¬ b - a < 50) : partialIns lt a b (k + 1) i d = partialIns lt a b k i' (fixUpC lt b i' (fixDownC lt a i' (swp d i' (i' - 1)))) := by
  rw [partialIns]
  simp only [hs]
  rw [if_neg h1, if_neg h2]
  rfl
theorem pis_ok {G X : Heap} {B lim cap n : Nat} {p : Option Addr} {c : Clm → Clm → Int} {cl : FuncId} {cs : List Value} {Q : Value → Heap → Prop} (hp : p = some ⟨B, 0, none⟩) (hB : B < G.length) (hl : lim ≤ B) (hn2 : n < 2 ^ 61) (hc : ∀ (mp : Bool) (lim : Nat) (x y : Clm) (H : Heap) (Q : Value → Heap → Prop), CallR E mp lim cl (.agg (encC x).toArray :: .agg (encC y).toArray :: cs) H Q = Q (.int .i64 (c x y)) H) {d : Array Clm} {a b : Nat} (hd : d.size = n) (hb : b ≤ n) (hab : a < b) :
    CallR E false lim 83 [.slice p n cap, .int .i64 (a : Int), .int .i64 (b : Int), .func (.func cl) #[] cs.toArray] (DH encC G B d ++ X) Q = Q (.bool (partialInsertionSort (ltC c) d a b).2) (DH encC G B (partialInsertionSort (ltC c) d a b).1 ++ X) := by
  refine runs (by decide) e83 rfl ?_
  rw [b83, c83]
  have hw1 : IntKind.i64.wrap ((a : Int) + 1) = ((a + 1 : Nat) : Int) := wrap_nat (by omega)
  generalize hT : partialInsertionSort (ltC c) d a b = T
  rw [partialInsertionSort] at hT
  have ld := fun (i : Nat) (X : Heap) (d : Array Clm) (hd : d.size = n) (hi : i < n) => DH_ld (X := X) (d := d) (i := i) hp hB encC_len (by omega); have st := fun (i : Nat) (X : Heap) (d : Array Clm) (hd : d.size = n) (hi : i < n) (y : Clm) => DH_st (X := X) (d := d) (i := i) (y := y) hp hB hl encC_len (by omega); have ix := fun (i : Nat) (hi : i < n) c (k : IntKind) (H : Heap) => DH_idx (e := 6) (i := i) (n := n) (c := c) (k := k) (H := H) hp hi
  simp only [n83, r83, hw1, SB, Nat.reduceLT, callee, aOp, ne_eq, Nat.reduceEqDiff, aBin, aUn, if_true, if_false, reduceCtorEq, frame0, place, notTuple, Nat.reduceAdd, Nat.reduceLeDiff, resVal, dite_true, dite_false, Int.reduceEq, Int.reduceLT, Int.reduceLE]
  refine Ret_rounds (S := Nat × Nat × Array Clm) (fun s => s.1) (fun s fr H => s.1 ≤ 5 ∧ a < s.2.1 ∧ s.2.1 ≤ b ∧ fr 0 = .slice p n cap ∧ fr 1 = .int .i64 (a : Int) ∧ fr 2 = .int .i64 (b : Int) ∧ fr 3 = .func (.func cl) #[] cs.toArray ∧ fr 9 = .int .i64 (s.2.1 : Int) ∧ fr 10 = .int .i64 (5 - (s.1 : Int)) ∧
    H = DH encC G B s.2.2 ++ X ∧ s.2.2.size = n ∧ T = partialIns (ltC c) a b s.1 s.2.1 s.2.2) (5, a + 1, d) ⟨by simp only; omega, by simp only; omega, by simp only; omega, (by simp only [upd_same, upd_ne, ne_eq, Nat.reduceEqDiff, not_false_eq_true, frame0, List.getD_cons_zero, List.getD_cons_succ]), (by simp only [upd_same, upd_ne, ne_eq, Nat.reduceEqDiff, not_false_eq_true, frame0, List.getD_cons_zero, List.getD_cons_succ]), (by simp only [upd_same, upd_ne, ne_eq, Nat.reduceEqDiff, not_false_eq_true, frame0, List.getD_cons_zero, List.getD_cons_succ]), (by simp only [upd_same, upd_ne, ne_eq, Nat.reduceEqDiff, not_false_eq_true, frame0, List.getD_cons_zero, List.getD_cons_succ]), (by simp only [upd_same, upd_ne, ne_eq, Nat.reduceEqDiff, not_false_eq_true, frame0, List.getD_cons_zero, List.getD_cons_succ]), by rfl, rfl, hd, hT.symm⟩ ?_
  rintro ⟨k, i, d1⟩ fr H ⟨h1, h2, h3, g0, g1, g2, g3, g9, g10, rfl, hd1, he⟩ hN
  simp only at h1 h2 h3 g9 g10 hd1 he
  rw [Ret_code l83_4.eq_1]
  cases k with
  | zero =>
    have g10' : fr 10 = .int .i64 5 := by simpa using g10
    clear hN g10
    simp only [n83, r83, g0, g1, g2, g3, g9, g10', SB, Nat.reduceLT, callee, aOp, ne_eq, Nat.reduceEqDiff, aBin, aUn, if_true, if_false, reduceCtorEq, frame0, place, notTuple, Nat.reduceAdd, Nat.reduceLeDiff, resVal, dite_true, dite_false, Int.reduceEq, Int.reduceLT, Int.reduceLE]
    rw [he, partialIns]
    exact ⟨rfl, rfl⟩
  | succ k =>
    have hk : (5 : Int) - ((k + 1 : Nat) : Int) < 5 := by omega
    have hwk : IntKind.i64.wrap ((5 : Int) - ((k + 1 : Nat) : Int) + 1) = 5 - (k : Int) := by rw [wrap_id (by omega) (by omega)]; omega
    simp only [n83, r83, g0, g1, g2, g3, g9, g10, hk, SB, Nat.reduceLT, callee, aOp, ne_eq, Nat.reduceEqDiff, aBin, aUn, if_true, if_false, reduceCtorEq, frame0, place, notTuple, Nat.reduceAdd, Nat.reduceLeDiff, resVal, dite_true, dite_false, Int.reduceEq, Int.reduceLT, Int.reduceLE]
    refine Ret_rounds (S := Nat) (fun s => b + 1 - s) (fun s fr H => i ≤ s ∧ s ≤ b ∧ fr 0 = .slice p n cap ∧ fr 1 = .int .i64 (a : Int) ∧ fr 2 = .int .i64 (b : Int) ∧ fr 3 = .func (.func cl) #[] cs.toArray ∧ fr 9 = .int .i64 (s : Int) ∧ fr 10 = .int .i64 (5 - ((k + 1 : Nat) : Int)) ∧
      H = DH encC G B d1 ++ X ∧ scanSorted (ltC c) d1 b i = scanSorted (ltC c) d1 b s) i ⟨Nat.le_refl _, h3, (by simp only [g0, upd_same, upd_ne, ne_eq, Nat.reduceEqDiff, not_false_eq_true, frame0, List.getD_cons_zero, List.getD_cons_succ]), (by simp only [g1, upd_same, upd_ne, ne_eq, Nat.reduceEqDiff, not_false_eq_true, frame0, List.getD_cons_zero, List.getD_cons_succ]), (by simp only [g2, upd_same, upd_ne, ne_eq, Nat.reduceEqDiff, not_false_eq_true, frame0, List.getD_cons_zero, List.getD_cons_succ]), (by simp only [g3, upd_same, upd_ne, ne_eq, Nat.reduceEqDiff, not_false_eq_true, frame0, List.getD_cons_zero, List.getD_cons_succ]), (by simp only [g9, upd_same, upd_ne, ne_eq, Nat.reduceEqDiff, not_false_eq_true, frame0, List.getD_cons_zero, List.getD_cons_succ]), (by simp only [g10, upd_same, upd_ne, ne_eq, Nat.reduceEqDiff, not_false_eq_true, frame0, List.getD_cons_zero, List.getD_cons_succ]), rfl, rfl⟩ ?_
    rintro i' fr1 H1 ⟨x1, x2, q0, q1, q2, q3, q9, q10, rfl, hs⟩ hM
    rw [Ret_code l83_3.eq_1]
    have hwi : IntKind.i64.wrap ((i' : Int) - 1) = ((i' - 1 : Nat) : Int) := wrap_pred (by omega) (by omega)
    have hwi1 : IntKind.i64.wrap ((i' : Int) + 1) = ((i' + 1 : Nat) : Int) := wrap_nat (by omega)
    have hwa : IntKind.i64.wrap ((i' : Int) - (a : Int)) = ((i' - a : Nat) : Int) := by rw [wrap_id (by omega) (by omega)]; omega
    have hwb : IntKind.i64.wrap ((b : Int) - (i' : Int)) = ((b - i' : Nat) : Int) := by rw [wrap_id (by omega) (by omega)]; omega
    have hwl : IntKind.i64.wrap ((b : Int) - (a : Int)) = ((b - a : Nat) : Int) := by rw [wrap_id (by omega) (by omega)]; omega
    have i6 : i' - 1 < n := by omega
    by_cases c1 : i' = b
    · subst c1
      have hs2 : scanSorted (ltC c) d1 i' i = i' := by rw [hs, scanS_stop (fun q => absurd q (Nat.lt_irrefl _))]
      have c2 : ¬ i' < i' := Nat.lt_irrefl _
      have e : partialIns (ltC c) a i' (k + 1) i d1 = (d1, true) := by
        rw [partialIns]; simp only [hs2]; simp
      simp only [n83, r83, q0, q1, q2, q3, q9, q10, c2, ld, st, ix, List.append_nil, Array.size_setIfInBounds, encC_len, SB, Nat.reduceLT, callee, aOp, ne_eq, Nat.reduceEqDiff, aBin, aUn, if_true, if_false, reduceCtorEq, frame0, place, notTuple, Nat.reduceAdd, Nat.reduceLeDiff, resVal, dite_true, dite_false, Int.reduceEq, Int.reduceLT, Int.reduceLE]
      rw [he, e]
      exact ⟨rfl, rfl⟩
    have c2 : i' < b := by omega
    have i5 : i' < n := by omega
    have c1' : ¬ ((i' : Int) = (b : Int)) := by omega
    by_cases c3 : c d1[i']! d1[i' - 1]! < 0
    case neg =>
      simp only [n83, r83, q0, q1, q2, q3, q9, q10, c2, c3, hwi, hwi1, ld, st, ix, List.append_nil, Array.size_setIfInBounds, encC_len, hd1, i5, i6, hc, SB, Nat.reduceLT, callee, aOp, ne_eq, Nat.reduceEqDiff, aBin, aUn, if_true, if_false, reduceCtorEq, frame0, place, notTuple, Nat.reduceAdd, Nat.reduceLeDiff, resVal, dite_true, dite_false, Int.reduceEq, Int.reduceLT, Int.reduceLE]
      exact hM (i' + 1) _ _ ⟨by omega, by omega, (by simp only [q0, upd_same, upd_ne, ne_eq, Nat.reduceEqDiff, not_false_eq_true, frame0, List.getD_cons_zero, List.getD_cons_succ]), (by simp only [q1, upd_same, upd_ne, ne_eq, Nat.reduceEqDiff, not_false_eq_true, frame0, List.getD_cons_zero, List.getD_cons_succ]), (by simp only [q2, upd_same, upd_ne, ne_eq, Nat.reduceEqDiff, not_false_eq_true, frame0, List.getD_cons_zero, List.getD_cons_succ]), (by simp only [q3, upd_same, upd_ne, ne_eq, Nat.reduceEqDiff, not_false_eq_true, frame0, List.getD_cons_zero, List.getD_cons_succ]), (by simp only [upd_same, upd_ne, ne_eq, Nat.reduceEqDiff, not_false_eq_true, frame0, List.getD_cons_zero, List.getD_cons_succ]), (by simp only [q10, upd_same, upd_ne, ne_eq, Nat.reduceEqDiff, not_false_eq_true, frame0, List.getD_cons_zero, List.getD_cons_succ]), rfl, by rw [hs, scanS_step c2 (by simp [ltC, c3])]⟩ (by omega)
    clear hM
    have hs2 : scanSorted (ltC c) d1 b i = i' := by rw [hs, scanS_stop (fun _ => by simp [ltC, c3])]
    by_cases c4 : b - a < 50
    · have c4' : ((b - a : Nat) : Int) < 50 := by omega
      simp only [n83, r83, q0, q1, q2, q3, q9, q10, c2, c3, c1', c4', hwi, hwl, ld, st, ix, List.append_nil, Array.size_setIfInBounds, encC_len, hd1, i5, i6, hc, SB, Nat.reduceLT, callee, aOp, ne_eq, Nat.reduceEqDiff, aBin, aUn, if_true, if_false, reduceCtorEq, frame0, place, notTuple, Nat.reduceAdd, Nat.reduceLeDiff, resVal, dite_true, dite_false, Int.reduceEq, Int.reduceLT, Int.reduceLE]
      have e : partialIns (ltC c) a b (k + 1) i d1 = (d1, false) := by
        rw [partialIns]; simp only [hs2]; rw [if_neg c1, if_pos c4]
      rw [he, e]
      exact ⟨rfl, rfl⟩
    have c4' : ¬ ((b - a : Nat) : Int) < 50 := by omega
    rw [partialIns_more hs2 c1 c4] at he
    by_cases hA : 2 ≤ i' - a
    · have hAi : (2 : Int) ≤ ((i' - a : Nat) : Int) := by omega
      simp only [n83, r83, q0, q1, q2, q3, q9, q10, c2, c3, c1', c4', hwi, hwl, hwa, hAi, ld, st, ix, List.append_nil, Array.size_setIfInBounds, encC_len, hd1, i5, i6, hc, SB, Nat.reduceLT, callee, aOp, ne_eq, Nat.reduceEqDiff, aBin, aUn, if_true, if_false, reduceCtorEq, frame0, place, notTuple, Nat.reduceAdd, Nat.reduceLeDiff, resVal, dite_true, dite_false, Int.reduceEq, Int.reduceLT, Int.reduceLE]
      refine Ret_rounds (S := Nat × Array Clm) (fun s => s.1) (fun s fr H => s.1 < i' ∧ fr 0 = .slice p n cap ∧ fr 1 = .int .i64 (a : Int) ∧ fr 2 = .int .i64 (b : Int) ∧ fr 3 = .func (.func cl) #[] cs.toArray ∧ fr 9 = .int .i64 (i' : Int) ∧ fr 10 = .int .i64 (5 - ((k + 1 : Nat) : Int)) ∧ fr 11 = .int .i64 (s.1 : Int) ∧
        H = DH encC G B s.2 ++ X ∧ s.2.size = n ∧ shiftDown (ltC c) (i' - 1) (swp d1 i' (i' - 1)) = shiftDown (ltC c) s.1 s.2) (i' - 1, swp d1 i' (i' - 1)) ⟨by simp only; omega, (by simp only [q0, upd_same, upd_ne, ne_eq, Nat.reduceEqDiff, not_false_eq_true, frame0, List.getD_cons_zero, List.getD_cons_succ]), (by simp only [q1, upd_same, upd_ne, ne_eq, Nat.reduceEqDiff, not_false_eq_true, frame0, List.getD_cons_zero, List.getD_cons_succ]), (by simp only [q2, upd_same, upd_ne, ne_eq, Nat.reduceEqDiff, not_false_eq_true, frame0, List.getD_cons_zero, List.getD_cons_succ]), (by simp only [q3, upd_same, upd_ne, ne_eq, Nat.reduceEqDiff, not_false_eq_true, frame0, List.getD_cons_zero, List.getD_cons_succ]), (by simp only [q9, upd_same, upd_ne, ne_eq, Nat.reduceEqDiff, not_false_eq_true, frame0, List.getD_cons_zero, List.getD_cons_succ]), (by simp only [q10, upd_same, upd_ne, ne_eq, Nat.reduceEqDiff, not_false_eq_true, frame0, List.getD_cons_zero, List.getD_cons_succ]), (by simp only [upd_same, upd_ne, ne_eq, Nat.reduceEqDiff, not_false_eq_true, frame0, List.getD_cons_zero, List.getD_cons_succ]), by simp [swp], by simp [swp, hd1], rfl⟩ ?_
      rintro ⟨v, dv⟩ frv Hv ⟨v1, v30, v31, v32, v33, v39, v310, v11, rfl, hdv, hev⟩ hV
      simp only at v1 v11 hdv hev
      rw [Ret_code l83_2.eq_1]
      cases v with
      | succ v =>
        have iv : v + 1 < n := by omega
        have iv1 : v < n := by omega
        have hwv : IntKind.i64.wrap (((v + 1 : Nat) : Int) - 1) = (v : Int) := wrap_pred (n := v + 1) (by omega) (by omega)
        have cv : (1 : Int) ≤ ((v + 1 : Nat) : Int) := by omega
        rw [shiftDown] at hev
        by_cases cv2 : c dv[v + 1]! dv[v]! < 0
        · rw [if_neg (by simp [ltC, cv2])] at hev
          simp only [n83, r83, v30, v31, v32, v33, v39, v310, v11, cv, cv2, hwv, ld, st, ix, List.append_nil, Array.size_setIfInBounds, encC_len, hdv, iv, iv1, hc, SB, Nat.reduceLT, callee, aOp, ne_eq, Nat.reduceEqDiff, aBin, aUn, if_true, if_false, reduceCtorEq, frame0, place, notTuple, Nat.reduceAdd, Nat.reduceLeDiff, resVal, dite_true, dite_false, Int.reduceEq, Int.reduceLT, Int.reduceLE]
          exact hV (v, swp dv (v + 1) v) _ _ ⟨by simp only; omega, (by simp only [v30, upd_same, upd_ne, ne_eq, Nat.reduceEqDiff, not_false_eq_true, frame0, List.getD_cons_zero, List.getD_cons_succ]), (by simp only [v31, upd_same, upd_ne, ne_eq, Nat.reduceEqDiff, not_false_eq_true, frame0, List.getD_cons_zero, List.getD_cons_succ]), (by simp only [v32, upd_same, upd_ne, ne_eq, Nat.reduceEqDiff, not_false_eq_true, frame0, List.getD_cons_zero, List.getD_cons_succ]), (by simp only [v33, upd_same, upd_ne, ne_eq, Nat.reduceEqDiff, not_false_eq_true, frame0, List.getD_cons_zero, List.getD_cons_succ]), (by simp only [v39, upd_same, upd_ne, ne_eq, Nat.reduceEqDiff, not_false_eq_true, frame0, List.getD_cons_zero, List.getD_cons_succ]), (by simp only [v310, upd_same, upd_ne, ne_eq, Nat.reduceEqDiff, not_false_eq_true, frame0, List.getD_cons_zero, List.getD_cons_succ]), (by simp only [upd_same, upd_ne, ne_eq, Nat.reduceEqDiff, not_false_eq_true, frame0, List.getD_cons_zero, List.getD_cons_succ]), by simp [swp], by simp [swp, hdv], hev⟩ (by simp only; omega)
        · rw [if_pos (by simp [ltC, cv2])] at hev
          clear hV
          have hfd : fixDownC (ltC c) a i' (swp d1 i' (i' - 1)) = dv := by rw [fixDownC, if_pos hA, hev]
          by_cases hB : 2 ≤ b - i'
          · have hBi : (2 : Int) ≤ ((b - i' : Nat) : Int) := by omega
            simp only [n83, r83, v30, v31, v32, v33, v39, v310, hwb, hBi, hwi1, v11, cv, cv2, hwv, hdv, iv, iv1, hc, ld, st, ix, List.append_nil, Array.size_setIfInBounds, encC_len, SB, Nat.reduceLT, callee, aOp, ne_eq, Nat.reduceEqDiff, aBin, aUn, if_true, if_false, reduceCtorEq, frame0, place, notTuple, Nat.reduceAdd, Nat.reduceLeDiff, resVal, dite_true, dite_false, Int.reduceEq, Int.reduceLT, Int.reduceLE]
            generalize hU : shiftUp (ltC c) b (i' + 1) (dv) = U
            refine Ret_rounds (S := Nat × Array Clm) (fun s => b + 1 - s.1) (fun s fr H => i' + 1 ≤ s.1 ∧ s.1 ≤ b ∧ fr 0 = .slice p n cap ∧ fr 1 = .int .i64 (a : Int) ∧ fr 2 = .int .i64 (b : Int) ∧ fr 3 = .func (.func cl) #[] cs.toArray ∧ fr 9 = .int .i64 (i' : Int) ∧ fr 10 = .int .i64 (5 - ((k + 1 : Nat) : Int)) ∧ fr 12 = .int .i64 (s.1 : Int) ∧
              H = DH encC G B s.2 ++ X ∧ s.2.size = n ∧ U = shiftUp (ltC c) b s.1 s.2) (i' + 1, dv) ⟨by simp only; omega, by simp only; omega, (by simp only [v30, upd_same, upd_ne, ne_eq, Nat.reduceEqDiff, not_false_eq_true, frame0, List.getD_cons_zero, List.getD_cons_succ]), (by simp only [v31, upd_same, upd_ne, ne_eq, Nat.reduceEqDiff, not_false_eq_true, frame0, List.getD_cons_zero, List.getD_cons_succ]), (by simp only [v32, upd_same, upd_ne, ne_eq, Nat.reduceEqDiff, not_false_eq_true, frame0, List.getD_cons_zero, List.getD_cons_succ]), (by simp only [v33, upd_same, upd_ne, ne_eq, Nat.reduceEqDiff, not_false_eq_true, frame0, List.getD_cons_zero, List.getD_cons_succ]), (by simp only [v39, upd_same, upd_ne, ne_eq, Nat.reduceEqDiff, not_false_eq_true, frame0, List.getD_cons_zero, List.getD_cons_succ]), (by simp only [v310, upd_same, upd_ne, ne_eq, Nat.reduceEqDiff, not_false_eq_true, frame0, List.getD_cons_zero, List.getD_cons_succ]), (by simp only [upd_same, upd_ne, ne_eq, Nat.reduceEqDiff, not_false_eq_true, frame0, List.getD_cons_zero, List.getD_cons_succ]), by simp [swp], by simp [swp, hdv], hU.symm⟩ ?_
            rintro ⟨w, dw⟩ frw Hw ⟨w1, w2, w3, w4, w5, w6, w9, w10, w12, rfl, hdw, hew⟩ hW
            simp only at w1 w2 w12 hdw hew
            rw [Ret_code l83_1.eq_1]
            unfold shiftUp at hew
            by_cases cw : w < b
            · have iw : w < n := by omega
              have iw1 : w - 1 < n := by omega
              have hww : IntKind.i64.wrap ((w : Int) - 1) = ((w - 1 : Nat) : Int) := wrap_pred (by omega) (by omega)
              have hww1 : IntKind.i64.wrap ((w : Int) + 1) = ((w + 1 : Nat) : Int) := wrap_nat (by omega)
              by_cases cw2 : c dw[w]! dw[w - 1]! < 0
              · rw [if_pos cw, if_neg (by simp [ltC, cw2])] at hew
                simp only [n83, r83, w3, w4, w5, w6, w9, w10, w12, cw, cw2, hww, hww1, ld, st, ix, List.append_nil, Array.size_setIfInBounds, encC_len, hdw, iw, iw1, hc, SB, Nat.reduceLT, callee, aOp, ne_eq, Nat.reduceEqDiff, aBin, aUn, if_true, if_false, reduceCtorEq, frame0, place, notTuple, Nat.reduceAdd, Nat.reduceLeDiff, resVal, dite_true, dite_false, Int.reduceEq, Int.reduceLT, Int.reduceLE]
                exact hW (w + 1, swp dw w (w - 1)) _ _ ⟨by simp only; omega, by simp only; omega, (by simp only [w3, upd_same, upd_ne, ne_eq, Nat.reduceEqDiff, not_false_eq_true, frame0, List.getD_cons_zero, List.getD_cons_succ]), (by simp only [w4, upd_same, upd_ne, ne_eq, Nat.reduceEqDiff, not_false_eq_true, frame0, List.getD_cons_zero, List.getD_cons_succ]), (by simp only [w5, upd_same, upd_ne, ne_eq, Nat.reduceEqDiff, not_false_eq_true, frame0, List.getD_cons_zero, List.getD_cons_succ]), (by simp only [w6, upd_same, upd_ne, ne_eq, Nat.reduceEqDiff, not_false_eq_true, frame0, List.getD_cons_zero, List.getD_cons_succ]), (by simp only [w9, upd_same, upd_ne, ne_eq, Nat.reduceEqDiff, not_false_eq_true, frame0, List.getD_cons_zero, List.getD_cons_succ]), (by simp only [w10, upd_same, upd_ne, ne_eq, Nat.reduceEqDiff, not_false_eq_true, frame0, List.getD_cons_zero, List.getD_cons_succ]), (by simp only [upd_same, upd_ne, ne_eq, Nat.reduceEqDiff, not_false_eq_true, frame0, List.getD_cons_zero, List.getD_cons_succ]), by simp [swp], by simp [swp, hdw], hew⟩ (by simp only; omega)
              · rw [if_pos cw, if_pos (by simp [ltC, cw2])] at hew
                clear hW
                simp only [n83, r83, w3, w4, w5, w6, w9, w10, w12, cw, cw2, hww, hww1, ld, st, ix, List.append_nil, Array.size_setIfInBounds, encC_len, hdw, iw, iw1, hc, hwk, SB, Nat.reduceLT, callee, aOp, ne_eq, Nat.reduceEqDiff, aBin, aUn, if_true, if_false, reduceCtorEq, frame0, place, notTuple, Nat.reduceAdd, Nat.reduceLeDiff, resVal, dite_true, dite_false, Int.reduceEq, Int.reduceLT, Int.reduceLE]
                exact hN (k, i', dw) _ _ ⟨by simp only; omega, by simp only; omega, by simp only; omega, (by simp only [w3, upd_same, upd_ne, ne_eq, Nat.reduceEqDiff, not_false_eq_true, frame0, List.getD_cons_zero, List.getD_cons_succ]), (by simp only [w4, upd_same, upd_ne, ne_eq, Nat.reduceEqDiff, not_false_eq_true, frame0, List.getD_cons_zero, List.getD_cons_succ]), (by simp only [w5, upd_same, upd_ne, ne_eq, Nat.reduceEqDiff, not_false_eq_true, frame0, List.getD_cons_zero, List.getD_cons_succ]), (by simp only [w6, upd_same, upd_ne, ne_eq, Nat.reduceEqDiff, not_false_eq_true, frame0, List.getD_cons_zero, List.getD_cons_succ]), (by simp only [w9, upd_same, upd_ne, ne_eq, Nat.reduceEqDiff, not_false_eq_true, frame0, List.getD_cons_zero, List.getD_cons_succ]), (by simp only [upd_same, upd_ne, ne_eq, Nat.reduceEqDiff, not_false_eq_true, frame0, List.getD_cons_zero, List.getD_cons_succ]), by simp, hdw, by rw [he, hfd, fixUpC, if_pos hB, hU, hew]⟩ (by simp only; omega)
            · rw [if_neg cw] at hew
              clear hW
              simp only [n83, r83, w3, w4, w5, w6, w9, w10, w12, cw, ld, st, ix, List.append_nil, Array.size_setIfInBounds, encC_len, hwk, SB, Nat.reduceLT, callee, aOp, ne_eq, Nat.reduceEqDiff, aBin, aUn, if_true, if_false, reduceCtorEq, frame0, place, notTuple, Nat.reduceAdd, Nat.reduceLeDiff, resVal, dite_true, dite_false, Int.reduceEq, Int.reduceLT, Int.reduceLE]
              exact hN (k, i', dw) _ _ ⟨by simp only; omega, by simp only; omega, by simp only; omega, (by simp only [w3, upd_same, upd_ne, ne_eq, Nat.reduceEqDiff, not_false_eq_true, frame0, List.getD_cons_zero, List.getD_cons_succ]), (by simp only [w4, upd_same, upd_ne, ne_eq, Nat.reduceEqDiff, not_false_eq_true, frame0, List.getD_cons_zero, List.getD_cons_succ]), (by simp only [w5, upd_same, upd_ne, ne_eq, Nat.reduceEqDiff, not_false_eq_true, frame0, List.getD_cons_zero, List.getD_cons_succ]), (by simp only [w6, upd_same, upd_ne, ne_eq, Nat.reduceEqDiff, not_false_eq_true, frame0, List.getD_cons_zero, List.getD_cons_succ]), (by simp only [w9, upd_same, upd_ne, ne_eq, Nat.reduceEqDiff, not_false_eq_true, frame0, List.getD_cons_zero, List.getD_cons_succ]), (by simp only [upd_same, upd_ne, ne_eq, Nat.reduceEqDiff, not_false_eq_true, frame0, List.getD_cons_zero, List.getD_cons_succ]), by simp, hdw, by rw [he, hfd, fixUpC, if_pos hB, hU, hew]⟩ (by simp only; omega)
          · have hBi : ¬ (2 : Int) ≤ ((b - i' : Nat) : Int) := by omega
            simp only [n83, r83, v30, v31, v32, v33, v39, v310, hwb, hBi, hwk, v11, cv, cv2, hwv, hdv, iv, iv1, hc, ld, st, ix, List.append_nil, Array.size_setIfInBounds, encC_len, SB, Nat.reduceLT, callee, aOp, ne_eq, Nat.reduceEqDiff, aBin, aUn, if_true, if_false, reduceCtorEq, frame0, place, notTuple, Nat.reduceAdd, Nat.reduceLeDiff, resVal, dite_true, dite_false, Int.reduceEq, Int.reduceLT, Int.reduceLE]
            exact hN (k, i', dv) _ _ ⟨by simp only; omega, by simp only; omega, by simp only; omega, (by simp only [v30, upd_same, upd_ne, ne_eq, Nat.reduceEqDiff, not_false_eq_true, frame0, List.getD_cons_zero, List.getD_cons_succ]), (by simp only [v31, upd_same, upd_ne, ne_eq, Nat.reduceEqDiff, not_false_eq_true, frame0, List.getD_cons_zero, List.getD_cons_succ]), (by simp only [v32, upd_same, upd_ne, ne_eq, Nat.reduceEqDiff, not_false_eq_true, frame0, List.getD_cons_zero, List.getD_cons_succ]), (by simp only [v33, upd_same, upd_ne, ne_eq, Nat.reduceEqDiff, not_false_eq_true, frame0, List.getD_cons_zero, List.getD_cons_succ]), (by simp only [v39, upd_same, upd_ne, ne_eq, Nat.reduceEqDiff, not_false_eq_true, frame0, List.getD_cons_zero, List.getD_cons_succ]), (by simp only [upd_same, upd_ne, ne_eq, Nat.reduceEqDiff, not_false_eq_true, frame0, List.getD_cons_zero, List.getD_cons_succ]), by simp [swp], by simp [swp, hdv], by rw [he, hfd, fixUpC, if_neg hB]⟩ (by simp only; omega)
      | zero =>
        have cv : ¬ (1 : Int) ≤ ((0 : Nat) : Int) := by omega
        rw [shiftDown] at hev
        clear hV
        have hfd : fixDownC (ltC c) a i' (swp d1 i' (i' - 1)) = dv := by rw [fixDownC, if_pos hA, hev]
        by_cases hB : 2 ≤ b - i'
        · have hBi : (2 : Int) ≤ ((b - i' : Nat) : Int) := by omega
          simp only [n83, r83, v30, v31, v32, v33, v39, v310, hwb, hBi, hwi1, v11, cv, ld, st, ix, List.append_nil, Array.size_setIfInBounds, encC_len, SB, Nat.reduceLT, callee, aOp, ne_eq, Nat.reduceEqDiff, aBin, aUn, if_true, if_false, reduceCtorEq, frame0, place, notTuple, Nat.reduceAdd, Nat.reduceLeDiff, resVal, dite_true, dite_false, Int.reduceEq, Int.reduceLT, Int.reduceLE]
          generalize hU : shiftUp (ltC c) b (i' + 1) (dv) = U
          refine Ret_rounds (S := Nat × Array Clm) (fun s => b + 1 - s.1) (fun s fr H => i' + 1 ≤ s.1 ∧ s.1 ≤ b ∧ fr 0 = .slice p n cap ∧ fr 1 = .int .i64 (a : Int) ∧ fr 2 = .int .i64 (b : Int) ∧ fr 3 = .func (.func cl) #[] cs.toArray ∧ fr 9 = .int .i64 (i' : Int) ∧ fr 10 = .int .i64 (5 - ((k + 1 : Nat) : Int)) ∧ fr 12 = .int .i64 (s.1 : Int) ∧
            H = DH encC G B s.2 ++ X ∧ s.2.size = n ∧ U = shiftUp (ltC c) b s.1 s.2) (i' + 1, dv) ⟨by simp only; omega, by simp only; omega, (by simp only [v30, upd_same, upd_ne, ne_eq, Nat.reduceEqDiff, not_false_eq_true, frame0, List.getD_cons_zero, List.getD_cons_succ]), (by simp only [v31, upd_same, upd_ne, ne_eq, Nat.reduceEqDiff, not_false_eq_true, frame0, List.getD_cons_zero, List.getD_cons_succ]), (by simp only [v32, upd_same, upd_ne, ne_eq, Nat.reduceEqDiff, not_false_eq_true, frame0, List.getD_cons_zero, List.getD_cons_succ]), (by simp only [v33, upd_same, upd_ne, ne_eq, Nat.reduceEqDiff, not_false_eq_true, frame0, List.getD_cons_zero, List.getD_cons_succ]), (by simp only [v39, upd_same, upd_ne, ne_eq, Nat.reduceEqDiff, not_false_eq_true, frame0, List.getD_cons_zero, List.getD_cons_succ]), (by simp only [v310, upd_same, upd_ne, ne_eq, Nat.reduceEqDiff, not_false_eq_true, frame0, List.getD_cons_zero, List.getD_cons_succ]), (by simp only [upd_same, upd_ne, ne_eq, Nat.reduceEqDiff, not_false_eq_true, frame0, List.getD_cons_zero, List.getD_cons_succ]), by simp [swp], by simp [swp, hdv], hU.symm⟩ ?_
          rintro ⟨w, dw⟩ frw Hw ⟨w1, w2, w3, w4, w5, w6, w9, w10, w12, rfl, hdw, hew⟩ hW
          simp only at w1 w2 w12 hdw hew
          rw [Ret_code l83_1.eq_1]
          unfold shiftUp at hew
          by_cases cw : w < b
          · have iw : w < n := by omega
            have iw1 : w - 1 < n := by omega
            have hww : IntKind.i64.wrap ((w : Int) - 1) = ((w - 1 : Nat) : Int) := wrap_pred (by omega) (by omega)
            have hww1 : IntKind.i64.wrap ((w : Int) + 1) = ((w + 1 : Nat) : Int) := wrap_nat (by omega)
            by_cases cw2 : c dw[w]! dw[w - 1]! < 0
            · rw [if_pos cw, if_neg (by simp [ltC, cw2])] at hew
              simp only [n83, r83, w3, w4, w5, w6, w9, w10, w12, cw, cw2, hww, hww1, ld, st, ix, List.append_nil, Array.size_setIfInBounds, encC_len, hdw, iw, iw1, hc, SB, Nat.reduceLT, callee, aOp, ne_eq, Nat.reduceEqDiff, aBin, aUn, if_true, if_false, reduceCtorEq, frame0, place, notTuple, Nat.reduceAdd, Nat.reduceLeDiff, resVal, dite_true, dite_false, Int.reduceEq, Int.reduceLT, Int.reduceLE]
              exact hW (w + 1, swp dw w (w - 1)) _ _ ⟨by simp only; omega, by simp only; omega, (by simp only [w3, upd_same, upd_ne, ne_eq, Nat.reduceEqDiff, not_false_eq_true, frame0, List.getD_cons_zero, List.getD_cons_succ]), (by simp only [w4, upd_same, upd_ne, ne_eq, Nat.reduceEqDiff, not_false_eq_true, frame0, List.getD_cons_zero, List.getD_cons_succ]), (by simp only [w5, upd_same, upd_ne, ne_eq, Nat.reduceEqDiff, not_false_eq_true, frame0, List.getD_cons_zero, List.getD_cons_succ]), (by simp only [w6, upd_same, upd_ne, ne_eq, Nat.reduceEqDiff, not_false_eq_true, frame0, List.getD_cons_zero, List.getD_cons_succ]), (by simp only [w9, upd_same, upd_ne, ne_eq, Nat.reduceEqDiff, not_false_eq_true, frame0, List.getD_cons_zero, List.getD_cons_succ]), (by simp only [w10, upd_same, upd_ne, ne_eq, Nat.reduceEqDiff, not_false_eq_true, frame0, List.getD_cons_zero, List.getD_cons_succ]), (by simp only [upd_same, upd_ne, ne_eq, Nat.reduceEqDiff, not_false_eq_true, frame0, List.getD_cons_zero, List.getD_cons_succ]), by simp [swp], by simp [swp, hdw], hew⟩ (by simp only; omega)
            · rw [if_pos cw, if_pos (by simp [ltC, cw2])] at hew
              clear hW
              simp only [n83, r83, w3, w4, w5, w6, w9, w10, w12, cw, cw2, hww, hww1, ld, st, ix, List.append_nil, Array.size_setIfInBounds, encC_len, hdw, iw, iw1, hc, hwk, SB, Nat.reduceLT, callee, aOp, ne_eq, Nat.reduceEqDiff, aBin, aUn, if_true, if_false, reduceCtorEq, frame0, place, notTuple, Nat.reduceAdd, Nat.reduceLeDiff, resVal, dite_true, dite_false, Int.reduceEq, Int.reduceLT, Int.reduceLE]
              exact hN (k, i', dw) _ _ ⟨by simp only; omega, by simp only; omega, by simp only; omega, (by simp only [w3, upd_same, upd_ne, ne_eq, Nat.reduceEqDiff, not_false_eq_true, frame0, List.getD_cons_zero, List.getD_cons_succ]), (by simp only [w4, upd_same, upd_ne, ne_eq, Nat.reduceEqDiff, not_false_eq_true, frame0, List.getD_cons_zero, List.getD_cons_succ]), (by simp only [w5, upd_same, upd_ne, ne_eq, Nat.reduceEqDiff, not_false_eq_true, frame0, List.getD_cons_zero, List.getD_cons_succ]), (by simp only [w6, upd_same, upd_ne, ne_eq, Nat.reduceEqDiff, not_false_eq_true, frame0, List.getD_cons_zero, List.getD_cons_succ]), (by simp only [w9, upd_same, upd_ne, ne_eq, Nat.reduceEqDiff, not_false_eq_true, frame0, List.getD_cons_zero, List.getD_cons_succ]), (by simp only [upd_same, upd_ne, ne_eq, Nat.reduceEqDiff, not_false_eq_true, frame0, List.getD_cons_zero, List.getD_cons_succ]), by simp, hdw, by rw [he, hfd, fixUpC, if_pos hB, hU, hew]⟩ (by simp only; omega)
          · rw [if_neg cw] at hew
            clear hW
            simp only [n83, r83, w3, w4, w5, w6, w9, w10, w12, cw, ld, st, ix, List.append_nil, Array.size_setIfInBounds, encC_len, hwk, SB, Nat.reduceLT, callee, aOp, ne_eq, Nat.reduceEqDiff, aBin, aUn, if_true, if_false, reduceCtorEq, frame0, place, notTuple, Nat.reduceAdd, Nat.reduceLeDiff, resVal, dite_true, dite_false, Int.reduceEq, Int.reduceLT, Int.reduceLE]
            exact hN (k, i', dw) _ _ ⟨by simp only; omega, by simp only; omega, by simp only; omega, (by simp only [w3, upd_same, upd_ne, ne_eq, Nat.reduceEqDiff, not_false_eq_true, frame0, List.getD_cons_zero, List.getD_cons_succ]), (by simp only [w4, upd_same, upd_ne, ne_eq, Nat.reduceEqDiff, not_false_eq_true, frame0, List.getD_cons_zero, List.getD_cons_succ]), (by simp only [w5, upd_same, upd_ne, ne_eq, Nat.reduceEqDiff, not_false_eq_true, frame0, List.getD_cons_zero, List.getD_cons_succ]), (by simp only [w6, upd_same, upd_ne, ne_eq, Nat.reduceEqDiff, not_false_eq_true, frame0, List.getD_cons_zero, List.getD_cons_succ]), (by simp only [w9, upd_same, upd_ne, ne_eq, Nat.reduceEqDiff, not_false_eq_true, frame0, List.getD_cons_zero, List.getD_cons_succ]), (by simp only [upd_same, upd_ne, ne_eq, Nat.reduceEqDiff, not_false_eq_true, frame0, List.getD_cons_zero, List.getD_cons_succ]), by simp, hdw, by rw [he, hfd, fixUpC, if_pos hB, hU, hew]⟩ (by simp only; omega)
        · have hBi : ¬ (2 : Int) ≤ ((b - i' : Nat) : Int) := by omega
          simp only [n83, r83, v30, v31, v32, v33, v39, v310, hwb, hBi, hwk, v11, cv, ld, st, ix, List.append_nil, Array.size_setIfInBounds, encC_len, SB, Nat.reduceLT, callee, aOp, ne_eq, Nat.reduceEqDiff, aBin, aUn, if_true, if_false, reduceCtorEq, frame0, place, notTuple, Nat.reduceAdd, Nat.reduceLeDiff, resVal, dite_true, dite_false, Int.reduceEq, Int.reduceLT, Int.reduceLE]
          exact hN (k, i', dv) _ _ ⟨by simp only; omega, by simp only; omega, by simp only; omega, (by simp only [v30, upd_same, upd_ne, ne_eq, Nat.reduceEqDiff, not_false_eq_true, frame0, List.getD_cons_zero, List.getD_cons_succ]), (by simp only [v31, upd_same, upd_ne, ne_eq, Nat.reduceEqDiff, not_false_eq_true, frame0, List.getD_cons_zero, List.getD_cons_succ]), (by simp only [v32, upd_same, upd_ne, ne_eq, Nat.reduceEqDiff, not_false_eq_true, frame0, List.getD_cons_zero, List.getD_cons_succ]), (by simp only [v33, upd_same, upd_ne, ne_eq, Nat.reduceEqDiff, not_false_eq_true, frame0, List.getD_cons_zero, List.getD_cons_succ]), (by simp only [v39, upd_same, upd_ne, ne_eq, Nat.reduceEqDiff, not_false_eq_true, frame0, List.getD_cons_zero, List.getD_cons_succ]), (by simp only [upd_same, upd_ne, ne_eq, Nat.reduceEqDiff, not_false_eq_true, frame0, List.getD_cons_zero, List.getD_cons_succ]), by simp [swp], by simp [swp, hdv], by rw [he, hfd, fixUpC, if_neg hB]⟩ (by simp only; omega)
    · have hAi : ¬ (2 : Int) ≤ ((i' - a : Nat) : Int) := by omega
      have hfd : fixDownC (ltC c) a i' (swp d1 i' (i' - 1)) = swp d1 i' (i' - 1) := by rw [fixDownC, if_neg hA]
      have hsz : (swp d1 i' (i' - 1)).size = n := by simp [swp, hd1]
      by_cases hB : 2 ≤ b - i'
      · have hBi : (2 : Int) ≤ ((b - i' : Nat) : Int) := by omega
        simp only [n83, r83, q0, q1, q2, q3, q9, q10, hwb, hBi, hwi1, c2, c3, c1', c4', hwi, hwl, hwa, hAi, hd1, i5, i6, hc, ld, st, ix, List.append_nil, Array.size_setIfInBounds, encC_len, SB, Nat.reduceLT, callee, aOp, ne_eq, Nat.reduceEqDiff, aBin, aUn, if_true, if_false, reduceCtorEq, frame0, place, notTuple, Nat.reduceAdd, Nat.reduceLeDiff, resVal, dite_true, dite_false, Int.reduceEq, Int.reduceLT, Int.reduceLE]
        generalize hU : shiftUp (ltC c) b (i' + 1) (swp d1 i' (i' - 1)) = U
        refine Ret_rounds (S := Nat × Array Clm) (fun s => b + 1 - s.1) (fun s fr H => i' + 1 ≤ s.1 ∧ s.1 ≤ b ∧ fr 0 = .slice p n cap ∧ fr 1 = .int .i64 (a : Int) ∧ fr 2 = .int .i64 (b : Int) ∧ fr 3 = .func (.func cl) #[] cs.toArray ∧ fr 9 = .int .i64 (i' : Int) ∧ fr 10 = .int .i64 (5 - ((k + 1 : Nat) : Int)) ∧ fr 12 = .int .i64 (s.1 : Int) ∧
          H = DH encC G B s.2 ++ X ∧ s.2.size = n ∧ U = shiftUp (ltC c) b s.1 s.2) (i' + 1, swp d1 i' (i' - 1)) ⟨by simp only; omega, by simp only; omega, (by simp only [q0, upd_same, upd_ne, ne_eq, Nat.reduceEqDiff, not_false_eq_true, frame0, List.getD_cons_zero, List.getD_cons_succ]), (by simp only [q1, upd_same, upd_ne, ne_eq, Nat.reduceEqDiff, not_false_eq_true, frame0, List.getD_cons_zero, List.getD_cons_succ]), (by simp only [q2, upd_same, upd_ne, ne_eq, Nat.reduceEqDiff, not_false_eq_true, frame0, List.getD_cons_zero, List.getD_cons_succ]), (by simp only [q3, upd_same, upd_ne, ne_eq, Nat.reduceEqDiff, not_false_eq_true, frame0, List.getD_cons_zero, List.getD_cons_succ]), (by simp only [q9, upd_same, upd_ne, ne_eq, Nat.reduceEqDiff, not_false_eq_true, frame0, List.getD_cons_zero, List.getD_cons_succ]), (by simp only [q10, upd_same, upd_ne, ne_eq, Nat.reduceEqDiff, not_false_eq_true, frame0, List.getD_cons_zero, List.getD_cons_succ]), (by simp only [upd_same, upd_ne, ne_eq, Nat.reduceEqDiff, not_false_eq_true, frame0, List.getD_cons_zero, List.getD_cons_succ]), by simp [swp], by simp [swp, hd1], hU.symm⟩ ?_
        rintro ⟨w, dw⟩ frw Hw ⟨w1, w2, w3, w4, w5, w6, w9, w10, w12, rfl, hdw, hew⟩ hW
        simp only at w1 w2 w12 hdw hew
        rw [Ret_code l83_1.eq_1]
        unfold shiftUp at hew
        by_cases cw : w < b
        · have iw : w < n := by omega
          have iw1 : w - 1 < n := by omega
          have hww : IntKind.i64.wrap ((w : Int) - 1) = ((w - 1 : Nat) : Int) := wrap_pred (by omega) (by omega)
          have hww1 : IntKind.i64.wrap ((w : Int) + 1) = ((w + 1 : Nat) : Int) := wrap_nat (by omega)
          by_cases cw2 : c dw[w]! dw[w - 1]! < 0
          · rw [if_pos cw, if_neg (by simp [ltC, cw2])] at hew
            simp only [n83, r83, w3, w4, w5, w6, w9, w10, w12, cw, cw2, hww, hww1, ld, st, ix, List.append_nil, Array.size_setIfInBounds, encC_len, hdw, iw, iw1, hc, SB, Nat.reduceLT, callee, aOp, ne_eq, Nat.reduceEqDiff, aBin, aUn, if_true, if_false, reduceCtorEq, frame0, place, notTuple, Nat.reduceAdd, Nat.reduceLeDiff, resVal, dite_true, dite_false, Int.reduceEq, Int.reduceLT, Int.reduceLE]
            exact hW (w + 1, swp dw w (w - 1)) _ _ ⟨by simp only; omega, by simp only; omega, (by simp only [w3, upd_same, upd_ne, ne_eq, Nat.reduceEqDiff, not_false_eq_true, frame0, List.getD_cons_zero, List.getD_cons_succ]), (by simp only [w4, upd_same, upd_ne, ne_eq, Nat.reduceEqDiff, not_false_eq_true, frame0, List.getD_cons_zero, List.getD_cons_succ]), (by simp only [w5, upd_same, upd_ne, ne_eq, Nat.reduceEqDiff, not_false_eq_true, frame0, List.getD_cons_zero, List.getD_cons_succ]), (by simp only [w6, upd_same, upd_ne, ne_eq, Nat.reduceEqDiff, not_false_eq_true, frame0, List.getD_cons_zero, List.getD_cons_succ]), (by simp only [w9, upd_same, upd_ne, ne_eq, Nat.reduceEqDiff, not_false_eq_true, frame0, List.getD_cons_zero, List.getD_cons_succ]), (by simp only [w10, upd_same, upd_ne, ne_eq, Nat.reduceEqDiff, not_false_eq_true, frame0, List.getD_cons_zero, List.getD_cons_succ]), (by simp only [upd_same, upd_ne, ne_eq, Nat.reduceEqDiff, not_false_eq_true, frame0, List.getD_cons_zero, List.getD_cons_succ]), by simp [swp], by simp [swp, hdw], hew⟩ (by simp only; omega)
          · rw [if_pos cw, if_pos (by simp [ltC, cw2])] at hew
            clear hW
            simp only [n83, r83, w3, w4, w5, w6, w9, w10, w12, cw, cw2, hww, hww1, ld, st, ix, List.append_nil, Array.size_setIfInBounds, encC_len, hdw, iw, iw1, hc, hwk, SB, Nat.reduceLT, callee, aOp, ne_eq, Nat.reduceEqDiff, aBin, aUn, if_true, if_false, reduceCtorEq, frame0, place, notTuple, Nat.reduceAdd, Nat.reduceLeDiff, resVal, dite_true, dite_false, Int.reduceEq, Int.reduceLT, Int.reduceLE]
            exact hN (k, i', dw) _ _ ⟨by simp only; omega, by simp only; omega, by simp only; omega, (by simp only [w3, upd_same, upd_ne, ne_eq, Nat.reduceEqDiff, not_false_eq_true, frame0, List.getD_cons_zero, List.getD_cons_succ]), (by simp only [w4, upd_same, upd_ne, ne_eq, Nat.reduceEqDiff, not_false_eq_true, frame0, List.getD_cons_zero, List.getD_cons_succ]), (by simp only [w5, upd_same, upd_ne, ne_eq, Nat.reduceEqDiff, not_false_eq_true, frame0, List.getD_cons_zero, List.getD_cons_succ]), (by simp only [w6, upd_same, upd_ne, ne_eq, Nat.reduceEqDiff, not_false_eq_true, frame0, List.getD_cons_zero, List.getD_cons_succ]), (by simp only [w9, upd_same, upd_ne, ne_eq, Nat.reduceEqDiff, not_false_eq_true, frame0, List.getD_cons_zero, List.getD_cons_succ]), (by simp only [upd_same, upd_ne, ne_eq, Nat.reduceEqDiff, not_false_eq_true, frame0, List.getD_cons_zero, List.getD_cons_succ]), by simp, hdw, by rw [he, hfd, fixUpC, if_pos hB, hU, hew]⟩ (by simp only; omega)
        · rw [if_neg cw] at hew
          clear hW
          simp only [n83, r83, w3, w4, w5, w6, w9, w10, w12, cw, ld, st, ix, List.append_nil, Array.size_setIfInBounds, encC_len, hwk, SB, Nat.reduceLT, callee, aOp, ne_eq, Nat.reduceEqDiff, aBin, aUn, if_true, if_false, reduceCtorEq, frame0, place, notTuple, Nat.reduceAdd, Nat.reduceLeDiff, resVal, dite_true, dite_false, Int.reduceEq, Int.reduceLT, Int.reduceLE]
          exact hN (k, i', dw) _ _ ⟨by simp only; omega, by simp only; omega, by simp only; omega, (by simp only [w3, upd_same, upd_ne, ne_eq, Nat.reduceEqDiff, not_false_eq_true, frame0, List.getD_cons_zero, List.getD_cons_succ]), (by simp only [w4, upd_same, upd_ne, ne_eq, Nat.reduceEqDiff, not_false_eq_true, frame0, List.getD_cons_zero, List.getD_cons_succ]), (by simp only [w5, upd_same, upd_ne, ne_eq, Nat.reduceEqDiff, not_false_eq_true, frame0, List.getD_cons_zero, List.getD_cons_succ]), (by simp only [w6, upd_same, upd_ne, ne_eq, Nat.reduceEqDiff, not_false_eq_true, frame0, List.getD_cons_zero, List.getD_cons_succ]), (by simp only [w9, upd_same, upd_ne, ne_eq, Nat.reduceEqDiff, not_false_eq_true, frame0, List.getD_cons_zero, List.getD_cons_succ]), (by simp only [upd_same, upd_ne, ne_eq, Nat.reduceEqDiff, not_false_eq_true, frame0, List.getD_cons_zero, List.getD_cons_succ]), by simp, hdw, by rw [he, hfd, fixUpC, if_pos hB, hU, hew]⟩ (by simp only; omega)
      · have hBi : ¬ (2 : Int) ≤ ((b - i' : Nat) : Int) := by omega
        simp only [n83, r83, q0, q1, q2, q3, q9, q10, hwb, hBi, hwk, c2, c3, c1', c4', hwi, hwl, hwa, hAi, hd1, i5, i6, hc, ld, st, ix, List.append_nil, Array.size_setIfInBounds, encC_len, SB, Nat.reduceLT, callee, aOp, ne_eq, Nat.reduceEqDiff, aBin, aUn, if_true, if_false, reduceCtorEq, frame0, place, notTuple, Nat.reduceAdd, Nat.reduceLeDiff, resVal, dite_true, dite_false, Int.reduceEq, Int.reduceLT, Int.reduceLE]
        exact hN (k, i', swp d1 i' (i' - 1)) _ _ ⟨by simp only; omega, by simp only; omega, by simp only; omega, (by simp only [q0, upd_same, upd_ne, ne_eq, Nat.reduceEqDiff, not_false_eq_true, frame0, List.getD_cons_zero, List.getD_cons_succ]), (by simp only [q1, upd_same, upd_ne, ne_eq, Nat.reduceEqDiff, not_false_eq_true, frame0, List.getD_cons_zero, List.getD_cons_succ]), (by simp only [q2, upd_same, upd_ne, ne_eq, Nat.reduceEqDiff, not_false_eq_true, frame0, List.getD_cons_zero, List.getD_cons_succ]), (by simp only [q3, upd_same, upd_ne, ne_eq, Nat.reduceEqDiff, not_false_eq_true, frame0, List.getD_cons_zero, List.getD_cons_succ]), (by simp only [q9, upd_same, upd_ne, ne_eq, Nat.reduceEqDiff, not_false_eq_true, frame0, List.getD_cons_zero, List.getD_cons_succ]), (by simp only [upd_same, upd_ne, ne_eq, Nat.reduceEqDiff, not_false_eq_true, frame0, List.getD_cons_zero, List.getD_cons_succ]), by simp [swp], by simp [swp, hd1], by rw [he, hfd, fixUpC, if_neg hB]⟩ (by simp only; omega)
end Go.Proofs.Ytlmoijifgbkapaa.Fn
namespace Go.Proofs.Ytlmoijifgbkapaa.Fn
open Go.AM Go.AM.Sym Go.Sort
set_option maxRecDepth 100000
set_option linter.unusedVariables false
set_option linter.unusedSimpArgs false
set_option maxHeartbeats 4000000

/-! ### A counter behind the array -/
section
variable {α : Type} {enc : α → List Value} {G X : Heap} {B : Nat} {d : Array α} {c : Blk}
theorem cnt_len : (DH enc G B d ++ X).length = G.length + X.length := by rw [List.length_append, DH_len]
theorem cnt_get : hget (DH enc G B d ++ (X ++ [c])) (G.length + X.length) = c := by
  rw [← List.append_assoc, ← cnt_len (enc := enc) (B := B) (d := d)]; exact hget_new0
theorem cnt_set {c' : Blk} : (DH enc G B d ++ (X ++ [c])).set (G.length + X.length) c' = DH enc G B d ++ (X ++ [c']) := by
  rw [← List.append_assoc, ← cnt_len (enc := enc) (B := B) (d := d), set_new0]; simp
end

theorem ord_ok {G X : Heap} {B lim cap n : Nat} {p : Option Addr} {c : Clm → Clm → Int} {cl : FuncId} {cs : List Value} (hp : p = some ⟨B, 0, none⟩) (hB : B < G.length) (hl : lim ≤ B) (hn2 : n < 2 ^ 61) (hc : ∀ (mp : Bool) (lim : Nat) (x y : Clm) (H : Heap) (Q : Value → Heap → Prop), CallR E mp lim cl (.agg (encC x).toArray :: .agg (encC y).toArray :: cs) H Q = Q (.int .i64 (c x y)) H) {d : Array Clm} {a b s : Nat} (hd : d.size = n) (ha : a < n) (hb : b < n) (hs : s < 100) :
    ∃ x y s' : Nat, (x = a ∧ y = b ∨ x = b ∧ y = a) ∧ s' ≤ s + 1 ∧ ∀ Q, CallR E false lim 100 [.slice p n cap, .int .i64 (a : Int), .int .i64 (b : Int), .pointer (some ⟨G.length + X.length, 0, none⟩), .func (.func cl) #[] cs.toArray] (DH encC G B d ++ (X ++ [.cells false [.int .i64 (s : Int)]])) Q =
      Q (.tuple #[.int .i64 (x : Int), .int .i64 (y : Int)]) (DH encC G B d ++ (X ++ [.cells false [.int .i64 (s' : Int)]])) := by
  have ld := fun (i : Nat) (X : Heap) (d : Array Clm) (hd : d.size = n) (hi : i < n) => DH_ld (X := X) (d := d) (i := i) hp hB encC_len (by omega); have st := fun (i : Nat) (X : Heap) (d : Array Clm) (hd : d.size = n) (hi : i < n) (y : Clm) => DH_st (X := X) (d := d) (i := i) (y := y) hp hB hl encC_len (by omega); have ix := fun (i : Nat) (hi : i < n) c (k : IntKind) (H : Heap) => DH_idx (e := 6) (i := i) (n := n) (c := c) (k := k) (H := H) hp hi
  have hw : IntKind.i64.wrap ((s : Int) + 1) = ((s + 1 : Nat) : Int) := wrap_nat (by omega)
  have hlG : lim ≤ G.length + X.length := by omega
  by_cases c1 : c d[b]! d[a]! < 0
  · refine ⟨b, a, s + 1, .inr ⟨rfl, rfl⟩, Nat.le_refl _, fun Q => runs (by decide) e100 rfl ?_⟩
    rw [b100, c100]
    simp only [n100, r100, ld, st, ix, List.append_nil, Array.size_setIfInBounds, encC_len, hd, ha, hb, hc, c1, cnt_get, cnt_set, hw, hlG, SB, Nat.reduceLT, callee, aOp, ne_eq, Nat.reduceEqDiff, aBin, aUn, if_true, if_false, reduceCtorEq, frame0, place, notTuple, Nat.reduceAdd, Nat.reduceLeDiff, resVal, dite_true, dite_false, Int.reduceEq, Int.reduceLT, Int.reduceLE]
  · refine ⟨a, b, s, .inl ⟨rfl, rfl⟩, by omega, fun Q => runs (by decide) e100 rfl ?_⟩
    rw [b100, c100]
    simp only [n100, r100, ld, st, ix, List.append_nil, Array.size_setIfInBounds, encC_len, hd, ha, hb, hc, c1, SB, Nat.reduceLT, callee, aOp, ne_eq, Nat.reduceEqDiff, aBin, aUn, if_true, if_false, reduceCtorEq, frame0, place, notTuple, Nat.reduceAdd, Nat.reduceLeDiff, resVal, dite_true, dite_false, Int.reduceEq, Int.reduceLT, Int.reduceLE]

theorem med_ok {G X : Heap} {B lim cap n : Nat} {p : Option Addr} {c : Clm → Clm → Int} {cl : FuncId} {cs : List Value} (hp : p = some ⟨B, 0, none⟩) (hB : B < G.length) (hl : lim ≤ B) (hn2 : n < 2 ^ 61) (hc : ∀ (mp : Bool) (lim : Nat) (x y : Clm) (H : Heap) (Q : Value → Heap → Prop), CallR E mp lim cl (.agg (encC x).toArray :: .agg (encC y).toArray :: cs) H Q = Q (.int .i64 (c x y)) H) {d : Array Clm} {a b e s : Nat} (hd : d.size = n) (ha : a < n) (hb : b < n) (he : e < n) (hs : s < 90) :
    ∃ x s' : Nat, (x = a ∨ x = b ∨ x = e) ∧ s' ≤ s + 3 ∧ ∀ Q, CallR E false lim 99 [.slice p n cap, .int .i64 (a : Int), .int .i64 (b : Int), .int .i64 (e : Int), .pointer (some ⟨G.length + X.length, 0, none⟩), .func (.func cl) #[] cs.toArray] (DH encC G B d ++ (X ++ [.cells false [.int .i64 (s : Int)]])) Q =
      Q (.int .i64 (x : Int)) (DH encC G B d ++ (X ++ [.cells false [.int .i64 (s' : Int)]])) := by
  obtain ⟨x1, y1, s1, h1, k1, o1⟩ := ord_ok (X := X) (cap := cap) (lim := lim) hp hB hl hn2 hc hd ha hb (show s < 100 by omega)
  obtain ⟨x2, y2, s2, h2, k2, o2⟩ := ord_ok (X := X) (cap := cap) (lim := lim) hp hB hl hn2 hc hd (show y1 < n by omega) he (show s1 < 100 by omega)
  obtain ⟨x3, y3, s3, h3, k3, o3⟩ := ord_ok (X := X) (cap := cap) (lim := lim) hp hB hl hn2 hc hd (show x1 < n by omega) (show x2 < n by omega) (show s2 < 100 by omega)
  refine ⟨y3, s3, by omega, by omega, fun Q => runs (by decide) e99 rfl ?_⟩
  rw [b99, c99]
  simp only [n99, r99, o1, o2, o3, SB, Nat.reduceLT, callee, aOp, ne_eq, Nat.reduceEqDiff, aBin, aUn, if_true, if_false, reduceCtorEq, frame0, place, notTuple, Nat.reduceAdd, Nat.reduceLeDiff, resVal, dite_true, dite_false, Int.reduceEq, Int.reduceLT, Int.reduceLE]

theorem meda_ok {G X : Heap} {B lim cap n : Nat} {p : Option Addr} {c : Clm → Clm → Int} {cl : FuncId} {cs : List Value} (hp : p = some ⟨B, 0, none⟩) (hB : B < G.length) (hl : lim ≤ B) (hn2 : n < 2 ^ 61) (hc : ∀ (mp : Bool) (lim : Nat) (x y : Clm) (H : Heap) (Q : Value → Heap → Prop), CallR E mp lim cl (.agg (encC x).toArray :: .agg (encC y).toArray :: cs) H Q = Q (.int .i64 (c x y)) H) {d : Array Clm} {a s : Nat} (hd : d.size = n) (h0 : 0 < a) (ha : a + 1 < n) (hs : s < 90) :
    ∃ x s' : Nat, a ≤ x + 1 ∧ x ≤ a + 1 ∧ s' ≤ s + 3 ∧ ∀ Q, CallR E false lim 98 [.slice p n cap, .int .i64 (a : Int), .pointer (some ⟨G.length + X.length, 0, none⟩), .func (.func cl) #[] cs.toArray] (DH encC G B d ++ (X ++ [.cells false [.int .i64 (s : Int)]])) Q =
      Q (.int .i64 (x : Int)) (DH encC G B d ++ (X ++ [.cells false [.int .i64 (s' : Int)]])) := by
  obtain ⟨x1, s1, h1, k1, o1⟩ := med_ok (X := X) (cap := cap) (lim := lim) (a := a - 1) (b := a) (e := a + 1) hp hB hl hn2 hc hd (by omega) (by omega) (by omega) hs
  have hw1 : IntKind.i64.wrap ((a : Int) - 1) = ((a - 1 : Nat) : Int) := wrap_pred (by omega) (by omega)
  have hw2 : IntKind.i64.wrap ((a : Int) + 1) = ((a + 1 : Nat) : Int) := wrap_nat (by omega)
  refine ⟨x1, s1, by omega, by omega, k1, fun Q => runs (by decide) e98 rfl ?_⟩
  rw [b98, c98]
  simp only [n98, r98, hw1, hw2, o1, SB, Nat.reduceLT, callee, aOp, ne_eq, Nat.reduceEqDiff, aBin, aUn, if_true, if_false, reduceCtorEq, frame0, place, notTuple, Nat.reduceAdd, Nat.reduceLeDiff, resVal, dite_true, dite_false, Int.reduceEq, Int.reduceLT, Int.reduceLE]

theorem wrap_int {m : Int} {k : Nat} (h : m = (k : Int)) (hk : k < 2 ^ 62) : IntKind.i64.wrap m = (k : Int) := by
  subst h; exact wrap_id (by omega) (by omega)
theorem tdiv_nat {a b : Nat} : (a : Int).tdiv (b : Int) = ((a / b : Nat) : Int) := by
  rw [Int.tdiv_eq_ediv_of_nonneg (by omega)]; rfl
theorem cho_ok {G X : Heap} {B lim cap n : Nat} {p : Option Addr} {c : Clm → Clm → Int} {cl : FuncId} {cs : List Value} (hp : p = some ⟨B, 0, none⟩) (hB : B < G.length) (hl : lim ≤ B) (hn2 : n < 2 ^ 61) (hc : ∀ (mp : Bool) (lim : Nat) (x y : Clm) (H : Heap) (Q : Value → Heap → Prop), CallR E mp lim cl (.agg (encC x).toArray :: .agg (encC y).toArray :: cs) H Q = Q (.int .i64 (c x y)) H) {d : Array Clm} {a b : Nat} (hd : d.size = n) (hb : b ≤ n) (hab : a + 12 < b) :
    ∃ v h s : Nat, a ≤ v ∧ v < b ∧ h ≤ 2 ∧ ∀ Q, CallR E false lim 81 [.slice p n cap, .int .i64 (a : Int), .int .i64 (b : Int), .func (.func cl) #[] cs.toArray] (DH encC G B d ++ X) Q =
      Q (.tuple #[.int .i64 (v : Int), .int .i64 (h : Int)]) (DH encC G B d ++ (X ++ [.cells false [.int .i64 (s : Int)]])) := by
  obtain ⟨l, rfl⟩ : ∃ l, b = a + l := ⟨b - a, by omega⟩
  have hw0 : IntKind.i64.wrap (((a + l : Nat) : Int) - (a : Int)) = (l : Int) := wrap_int (by omega) (by omega)
  have hq : (l : Int).tdiv 4 = ((l / 4 : Nat) : Int) := tdiv_nat (b := 4)
  have hw1 : IntKind.i64.wrap ((l / 4 : Nat) : Int) = ((l / 4 : Nat) : Int) := wrap_int rfl (by omega)
  have hw2 : IntKind.i64.wrap (((l / 4 : Nat) : Int) * 1) = ((l / 4 : Nat) : Int) := wrap_int (by omega) (by omega)
  have hw3 : IntKind.i64.wrap (((l / 4 : Nat) : Int) * 2) = ((l / 4 * 2 : Nat) : Int) := wrap_int (by omega) (by omega)
  have hw4 : IntKind.i64.wrap (((l / 4 : Nat) : Int) * 3) = ((l / 4 * 3 : Nat) : Int) := wrap_int (by omega) (by omega)
  have hw5 : IntKind.i64.wrap ((a : Int) + ((l / 4 : Nat) : Int)) = ((a + l / 4 : Nat) : Int) := wrap_int (by omega) (by omega)
  have hw6 : IntKind.i64.wrap ((a : Int) + ((l / 4 * 2 : Nat) : Int)) = ((a + l / 4 * 2 : Nat) : Int) := wrap_int (by omega) (by omega)
  have hw7 : IntKind.i64.wrap ((a : Int) + ((l / 4 * 3 : Nat) : Int)) = ((a + l / 4 * 3 : Nat) : Int) := wrap_int (by omega) (by omega)
  have c8 : (8 : Int) ≤ (l : Int) := by omega
  have key : ∀ (x y z s : Nat), a ≤ x → x < a + l → a ≤ y → y < a + l → a ≤ z → z < a + l → s < 80 → ∃ v s' : Nat, a ≤ v ∧ v < a + l ∧ ∀ Q, CallR E false lim 99 [.slice p n cap, .int .i64 (x : Int), .int .i64 (y : Int), .int .i64 (z : Int), .pointer (some ⟨G.length + X.length, 0, none⟩), .func (.func cl) #[] cs.toArray] (DH encC G B d ++ (X ++ [.cells false [.int .i64 (s : Int)]])) Q =
      Q (.int .i64 (v : Int)) (DH encC G B d ++ (X ++ [.cells false [.int .i64 (s' : Int)]])) := by
    intro x y z s q1 q2 q3 q4 q5 q6 q7
    obtain ⟨v, s', m1, _, m2⟩ := med_ok (X := X) (cap := cap) (lim := lim) (a := x) (b := y) (e := z) hp hB hl hn2 hc hd (by omega) (by omega) (by omega) (show s < 90 by omega)
    exact ⟨v, s', by omega, by omega, m2⟩
  have fin : ∀ (v s' : Nat) , ∃ h : Nat, h ≤ 2 ∧ ((s' = 0 ∧ h = 1) ∨ (¬ (s' : Int) = 0 ∧ s' = 12 ∧ h = 2) ∨ (¬ (s' : Int) = 0 ∧ ¬ (s' : Int) = 12 ∧ h = 0)) := by
    intro v s'
    by_cases z : s' = 0
    · exact ⟨1, by omega, .inl ⟨z, rfl⟩⟩
    · by_cases z2 : s' = 12
      · exact ⟨2, by omega, .inr (.inl ⟨by omega, z2, rfl⟩)⟩
      · exact ⟨0, by omega, .inr (.inr ⟨by omega, by omega, rfl⟩)⟩
  by_cases c50 : 50 ≤ l
  · have c50' : (50 : Int) ≤ (l : Int) := by omega
    obtain ⟨x1, s1, h1, h2, h3, o1⟩ := meda_ok (X := X) (cap := cap) (lim := lim) (a := a + l / 4) (s := 0) hp hB hl hn2 hc hd (by omega) (by omega) (by omega)
    obtain ⟨x2, s2, h4, h5, h6, o2⟩ := meda_ok (X := X) (cap := cap) (lim := lim) (a := a + l / 4 * 2) (s := s1) hp hB hl hn2 hc hd (by omega) (by omega) (by omega)
    obtain ⟨x3, s3, h7, h8, h9, o3⟩ := meda_ok (X := X) (cap := cap) (lim := lim) (a := a + l / 4 * 3) (s := s2) hp hB hl hn2 hc hd (by omega) (by omega) (by omega)
    obtain ⟨v, s', m1, m2, om⟩ := key x1 x2 x3 s3 (by omega) (by omega) (by omega) (by omega) (by omega) (by omega) (by omega)
    obtain ⟨h, hh, hc'⟩ := fin v s'
    refine ⟨v, h, s', m1, m2, hh, fun Q => runs (by decide) e81 rfl ?_⟩
    rw [b81, c81]
    simp only [show ((0 : Nat) : Int) = 0 from rfl] at o1
    rcases hc' with ⟨rfl, rfl⟩ | ⟨z1, rfl, rfl⟩ | ⟨z1, z2, rfl⟩
    · simp only [n81, r81, hw0, hq, hw1, hw2, hw3, hw4, hw5, hw6, hw7, c8, c50', o1, o2, o3, om, cnt_get, cnt_set, DH_len, SB, Nat.reduceLT, callee, aOp, ne_eq, Nat.reduceEqDiff, aBin, aUn, if_true, if_false, reduceCtorEq, frame0, place, notTuple, Nat.reduceAdd, Nat.reduceLeDiff, resVal, dite_true, dite_false, Int.reduceEq, Int.reduceLT, Int.reduceLE]
    · simp only [n81, r81, hw0, hq, hw1, hw2, hw3, hw4, hw5, hw6, hw7, c8, c50', o1, o2, o3, om, cnt_get, cnt_set, DH_len, SB, Nat.reduceLT, callee, aOp, ne_eq, Nat.reduceEqDiff, aBin, aUn, if_true, if_false, reduceCtorEq, frame0, place, notTuple, Nat.reduceAdd, Nat.reduceLeDiff, resVal, dite_true, dite_false, Int.reduceEq, Int.reduceLT, Int.reduceLE]
    · simp only [n81, r81, hw0, hq, hw1, hw2, hw3, hw4, hw5, hw6, hw7, c8, c50', o1, o2, o3, om, z1, z2, cnt_get, cnt_set, DH_len, SB, Nat.reduceLT, callee, aOp, ne_eq, Nat.reduceEqDiff, aBin, aUn, if_true, if_false, reduceCtorEq, frame0, place, notTuple, Nat.reduceAdd, Nat.reduceLeDiff, resVal, dite_true, dite_false, Int.reduceEq, Int.reduceLT, Int.reduceLE]
  · have c50' : ¬ (50 : Int) ≤ (l : Int) := by omega
    obtain ⟨v, s', m1, m2, om⟩ := key (a + l / 4) (a + l / 4 * 2) (a + l / 4 * 3) 0 (by omega) (by omega) (by omega) (by omega) (by omega) (by omega) (by omega)
    obtain ⟨h, hh, hc'⟩ := fin v s'
    refine ⟨v, h, s', m1, m2, hh, fun Q => runs (by decide) e81 rfl ?_⟩
    rw [b81, c81]
    simp only [show ((0 : Nat) : Int) = 0 from rfl] at om
    rcases hc' with ⟨rfl, rfl⟩ | ⟨z1, rfl, rfl⟩ | ⟨z1, z2, rfl⟩
    · simp only [n81, r81, hw0, hq, hw1, hw2, hw3, hw4, hw5, hw6, hw7, c8, c50', om, cnt_get, cnt_set, DH_len, SB, Nat.reduceLT, callee, aOp, ne_eq, Nat.reduceEqDiff, aBin, aUn, if_true, if_false, reduceCtorEq, frame0, place, notTuple, Nat.reduceAdd, Nat.reduceLeDiff, resVal, dite_true, dite_false, Int.reduceEq, Int.reduceLT, Int.reduceLE]
    · simp only [n81, r81, hw0, hq, hw1, hw2, hw3, hw4, hw5, hw6, hw7, c8, c50', om, cnt_get, cnt_set, DH_len, SB, Nat.reduceLT, callee, aOp, ne_eq, Nat.reduceEqDiff, aBin, aUn, if_true, if_false, reduceCtorEq, frame0, place, notTuple, Nat.reduceAdd, Nat.reduceLeDiff, resVal, dite_true, dite_false, Int.reduceEq, Int.reduceLT, Int.reduceLE]
    · simp only [n81, r81, hw0, hq, hw1, hw2, hw3, hw4, hw5, hw6, hw7, c8, c50', om, z1, z2, cnt_get, cnt_set, DH_len, SB, Nat.reduceLT, callee, aOp, ne_eq, Nat.reduceEqDiff, aBin, aUn, if_true, if_false, reduceCtorEq, frame0, place, notTuple, Nat.reduceAdd, Nat.reduceLeDiff, resVal, dite_true, dite_false, Int.reduceEq, Int.reduceLT, Int.reduceLE]
end Go.Proofs.Ytlmoijifgbkapaa.Fn
namespace Go.Proofs.Ytlmoijifgbkapaa.Fn
open Go.AM Go.AM.Sym Go.Sort
set_option maxRecDepth 100000
set_option linter.unusedVariables false
set_option linter.unusedSimpArgs false
set_option maxHeartbeats 4000000

def len8 : List UInt8 := [0, 1, 2, 2, 3, 3, 3, 3, 4, 4, 4, 4, 4, 4, 4, 4, 5, 5, 5, 5, 5, 5, 5, 5, 5, 5, 5, 5, 5, 5, 5, 5, 6, 6, 6, 6, 6, 6, 6, 6, 6, 6, 6, 6, 6, 6, 6, 6, 6, 6, 6, 6, 6, 6, 6, 6, 6, 6, 6, 6, 6, 6, 6, 6, 7, 7, 7, 7, 7, 7, 7, 7, 7, 7, 7, 7, 7, 7, 7, 7, 7, 7, 7, 7, 7, 7, 7, 7, 7, 7, 7, 7, 7, 7, 7, 7, 7, 7, 7, 7, 7, 7, 7, 7, 7, 7, 7, 7, 7, 7, 7, 7, 7, 7, 7, 7, 7, 7, 7, 7, 7, 7, 7, 7, 7, 7, 7, 7, 8, 8, 8, 8, 8, 8, 8, 8, 8, 8, 8, 8, 8, 8, 8, 8, 8, 8, 8, 8, 8, 8, 8, 8, 8, 8, 8, 8, 8, 8, 8, 8, 8, 8, 8, 8, 8, 8, 8, 8, 8, 8, 8, 8, 8, 8, 8, 8, 8, 8, 8, 8, 8, 8, 8, 8, 8, 8, 8, 8, 8, 8, 8, 8, 8, 8, 8, 8, 8, 8, 8, 8, 8, 8, 8, 8, 8, 8, 8, 8, 8, 8, 8, 8, 8, 8, 8, 8, 8, 8, 8, 8, 8, 8, 8, 8, 8, 8, 8, 8, 8, 8, 8, 8, 8, 8, 8, 8, 8, 8, 8, 8, 8, 8, 8, 8, 8, 8, 8, 8, 8, 8, 8, 8, 8, 8, 8, 8]
theorem len8_len : len8.length = 256 := by decide
theorem len8_ok : ∀ m, m < 256 → m < 2 ^ (len8.getD m 0).toNat ∧ (m = 0 ∨ 2 ^ (len8.getD m 0).toNat ≤ 2 * m) ∧ (len8.getD m 0).toNat ≤ 8 := by decide +kernel
theorem len8_get {m : Nat} (h : m < 256) : len8[m]? = some (len8.getD m 0) := by
  rw [List.getD_eq_getElem?_getD, List.getElem?_eq_getElem (by rw [len8_len]; exact h)]; rfl
theorem wrap64 {n : Int} : IntKind.u64.wrap n = n % 2 ^ 64 := by simp [IntKind.wrap, IntKind.bits, IntKind.signed]
theorem wrap8 {n : Int} : IntKind.u8.wrap n = n % 2 ^ 8 := by simp [IntKind.wrap, IntKind.bits, IntKind.signed]
theorem fd8 {a : Int} : a.fdiv (2 ^ min (Int.toNat 8) IntKind.u64.bits) = a / 256 := by
  rw [show (2 : Int) ^ min (Int.toNat 8) IntKind.u64.bits = 256 from by decide, Int.fdiv_eq_ediv_of_nonneg _ (by decide)]
theorem len_ok {x : Nat} (hx : x < 65536) (h0 : 0 < x) : ∃ L : Nat, x < 2 ^ L ∧ 2 ^ L ≤ 2 * x ∧ L ≤ 16 ∧ ∀ (mp : Bool) (lim : Nat) (H : Heap) (Q : Value → Heap → Prop), CallR E mp lim 66 [.int .u64 (x : Int)] H Q = Q (.int .i64 (L : Int)) H := by
  have key : ∃ L : Nat, x < 2 ^ L ∧ 2 ^ L ≤ 2 * x ∧ L ≤ 16 ∧ ∀ (mp : Bool) (lim : Nat) (H : Heap) (Q : Value → Heap → Prop), CallR E mp lim 87 [.int .u64 (x : Int)] H Q = Q (.int .i64 (L : Int)) H := by
    have c32 : ¬ (4294967296 : Int) ≤ (x : Int) := by omega
    have c16 : ¬ (65536 : Int) ≤ (x : Int) := by omega
    by_cases c8 : 256 ≤ x
    · obtain ⟨h1, h2, h3⟩ := len8_ok (x / 256) (by omega)
      have hg := len8_get (m := x / 256) (by omega)
      generalize hb : len8.getD (x / 256) 0 = b at h1 h2 h3 hg
      have h2' : 2 ^ b.toNat ≤ 2 * (x / 256) := by rcases h2 with h | h <;> omega
      have e : (2 : Nat) ^ (8 + b.toNat) = 256 * 2 ^ b.toNat := by rw [Nat.pow_add]
      refine ⟨8 + b.toNat, by rw [e]; omega, by rw [e]; omega, by omega, fun mp lim H Q => ?_⟩
      refine pc (by decide) e87 rfl rfl ?_
      rw [b87, c87]
      unfold len8 at hg
      have c8' : (256 : Int) ≤ (x : Int) := by omega
      have w1 : IntKind.u64.wrap ((x : Int) / 256) = ((x / 256 : Nat) : Int) := by rw [wrap64]; omega
      have w2 : IntKind.u8.wrap ((x : Int) / 256) = ((x / 256 : Nat) : Int) := by rw [wrap8]; omega
      have w3 : IntKind.i64.wrap ((b.toNat : Nat) : Int) = (b.toNat : Int) := wrap_int rfl (by omega)
      have w4 : IntKind.i64.wrap (8 + (b.toNat : Int)) = ((8 + b.toNat : Nat) : Int) := wrap_int (by omega) (by omega)
      have w5 : IntKind.i64.wrap 8 = 8 := by decide
      have w6 : (0 : Int) ≤ ((x / 256 : Nat) : Int) := by omega
      simp only [n87, r87, c32, c16, c8', fd8, w1, w2, w3, w4, w5, w6, hg, Int.toNat_natCast, Int.zero_add, SB, Nat.reduceLT, callee, aOp, ne_eq, Nat.reduceEqDiff, aBin, aUn, if_true, if_false, reduceCtorEq, frame0, place, notTuple, Nat.reduceAdd, Nat.reduceLeDiff, resVal, dite_true, dite_false, Int.reduceEq, Int.reduceLT, Int.reduceLE]
    · obtain ⟨h1, h2, h3⟩ := len8_ok x (by omega)
      have hg := len8_get (m := x) (by omega)
      generalize hb : len8.getD x 0 = b at h1 h2 h3 hg
      refine ⟨b.toNat, h1, by rcases h2 with h | h <;> omega, by omega, fun mp lim H Q => ?_⟩
      refine pc (by decide) e87 rfl rfl ?_
      rw [b87, c87]
      unfold len8 at hg
      have c8' : ¬ (256 : Int) ≤ (x : Int) := by omega
      have w2 : IntKind.u8.wrap (x : Int) = (x : Int) := by rw [wrap8]; omega
      have w3 : IntKind.i64.wrap ((b.toNat : Nat) : Int) = (b.toNat : Int) := wrap_int rfl (by omega)
      have w6 : (0 : Int) ≤ (x : Int) := by omega
      simp only [n87, r87, c32, c16, c8', w2, w3, w6, hg, Int.toNat_natCast, Int.zero_add, SB, Nat.reduceLT, callee, aOp, ne_eq, Nat.reduceEqDiff, aBin, aUn, if_true, if_false, reduceCtorEq, frame0, place, notTuple, Nat.reduceAdd, Nat.reduceLeDiff, resVal, dite_true, dite_false, Int.reduceEq, Int.reduceLT, Int.reduceLE]
  obtain ⟨L, h1, h2, h3, h4⟩ := key
  refine ⟨L, h1, h2, h3, fun mp lim H Q => ?_⟩
  refine pc (by decide) e66 rfl rfl ?_
  rw [b66, c66]
  simp only [n66, r66, h4, SB, Nat.reduceLT, callee, aOp, ne_eq, Nat.reduceEqDiff, aBin, aUn, if_true, if_false, reduceCtorEq, frame0, place, notTuple, Nat.reduceAdd, Nat.reduceLeDiff, resVal, dite_true, dite_false, Int.reduceEq, Int.reduceLT, Int.reduceLE]
theorem npt_ok {x : Nat} (hx : x < 65536) (h0 : 0 < x) : ∃ m : Nat, 0 < m ∧ m ≤ 2 * x ∧ ∀ (mp : Bool) (lim : Nat) (H : Heap) (Q : Value → Heap → Prop), CallR E mp lim 96 [.int .i64 (x : Int)] H Q = Q (.int .u64 (m : Int)) H := by
  obtain ⟨L, h1, h2, h3, h4⟩ := len_ok hx h0
  refine ⟨2 ^ L, Nat.pow_pos (by decide), h2, fun mp lim H Q => ?_⟩
  refine pc (by decide) e96 rfl rfl ?_
  rw [b96, c96]
  have w1 : IntKind.u64.wrap (x : Int) = (x : Int) := by rw [wrap64]; omega
  have w2 : min L IntKind.u64.bits = L := by simp only [IntKind.bits]; omega
  have hp : (2 : Nat) ^ L < 2 ^ 18 := by omega
  have w3 : IntKind.u64.wrap (1 * 2 ^ L) = ((2 ^ L : Nat) : Int) := by
    rw [wrap64, Int.one_mul]
    have : ((2 : Int) ^ L) = ((2 ^ L : Nat) : Int) := by simp
    rw [this]; omega
  have c0 : ¬ (L : Int) < 0 := by omega
  simp only [n96, r96, w1, h4, c0, Int.toNat_natCast, w2, w3, SB, Nat.reduceLT, callee, aOp, ne_eq, Nat.reduceEqDiff, aBin, aUn, if_true, if_false, reduceCtorEq, frame0, place, notTuple, Nat.reduceAdd, Nat.reduceLeDiff, resVal, dite_true, dite_false, Int.reduceEq, Int.reduceLT, Int.reduceLE]

theorem xor_ok {α : Type} {enc : α → List Value} {G X : Heap} {B lim : Nat} {d : Array α} {s : Int} (hl : lim ≤ B) (hB : B < G.length) :
    ∃ s' : Int, (0 ≤ s' ∧ s' < 2 ^ 64) ∧ ∀ Q, CallR E false lim 97 [.pointer (some ⟨G.length + X.length, 0, none⟩)] (DH enc G B d ++ (X ++ [.cells false [.int .u64 s]])) Q = Q (.int .u64 s') (DH enc G B d ++ (X ++ [.cells false [.int .u64 s']])) := by
  have hlG : lim ≤ G.length + X.length := by omega
  have hw : ∀ m : Int, 0 ≤ IntKind.u64.wrap m ∧ IntKind.u64.wrap m < 2 ^ 64 := by intro m; rw [wrap64]; omega
  have key : CallR E false lim 97 [.pointer (some ⟨G.length + X.length, 0, none⟩)] (DH enc G B d ++ (X ++ [.cells false [.int .u64 s]])) fun v H' => ∃ s', (0 ≤ s' ∧ s' < 2 ^ 64) ∧ v = .int .u64 s' ∧ H' = DH enc G B d ++ (X ++ [.cells false [.int .u64 s']]) := by
    rw [CallR_run (E := E) (g := 97) (af := a97) (by simp [E, orc]) e97 rfl rfl]
    rw [b97, c97]
    simp only [n97, r97, cnt_get, cnt_set, hlG, List.append_nil, SB, Nat.reduceLT, callee, aOp, ne_eq, Nat.reduceEqDiff, aBin, aUn, if_true, if_false, reduceCtorEq, frame0, place, notTuple, Nat.reduceAdd, Nat.reduceLeDiff, resVal, dite_true, dite_false, Int.reduceEq, Int.reduceLT, Int.reduceLE]
    exact ⟨_, hw _, rfl, rfl⟩
  obtain ⟨k, v, H', hx, s', h1, rfl, rfl⟩ := key
  exact ⟨s', h1, fun Q => CallR.det hx⟩
theorem and_le {a b : Int} (hb : 0 ≤ b ∧ b < 2 ^ 64) : 0 ≤ IntKind.u64.wrap ((BitVec.ofInt IntKind.u64.bits a &&& BitVec.ofInt IntKind.u64.bits b).toNat : Int) ∧ IntKind.u64.wrap ((BitVec.ofInt IntKind.u64.bits a &&& BitVec.ofInt IntKind.u64.bits b).toNat : Int) ≤ b := by
  rw [wrap64]
  have h1 : (BitVec.ofInt IntKind.u64.bits a &&& BitVec.ofInt IntKind.u64.bits b).toNat ≤ (BitVec.ofInt IntKind.u64.bits b).toNat := by
    rw [BitVec.toNat_and]; exact Nat.and_le_right
  have h2 : ((BitVec.ofInt IntKind.u64.bits b).toNat : Int) = b := by
    rw [BitVec.toNat_ofInt]
    simp only [IntKind.bits]
    omega
  omega
end Go.Proofs.Ytlmoijifgbkapaa.Fn
namespace Go.Proofs.Ytlmoijifgbkapaa.Fn
open Go.AM Go.AM.Sym Go.Sort
set_option maxRecDepth 100000
set_option linter.unusedVariables false
set_option linter.unusedSimpArgs false
set_option maxHeartbeats 4000000

theorem brk_ok {G X : Heap} {B lim cap n : Nat} {p : Option Addr} {c : Clm → Clm → Int} {cl : FuncId} {cs : List Value} (hp : p = some ⟨B, 0, none⟩) (hB : B < G.length) (hl : lim ≤ B) (hn2 : n < 2 ^ 61) (hc : ∀ (mp : Bool) (lim : Nat) (x y : Clm) (H : Heap) (Q : Value → Heap → Prop), CallR E mp lim cl (.agg (encC x).toArray :: .agg (encC y).toArray :: cs) H Q = Q (.int .i64 (c x y)) H) {d : Array Clm} {a b : Nat} (hd : d.size = n) (hb : b ≤ n) (hab : a + 12 < b) (hn3 : n < 65536) :
    ∃ d' s, d'.size = n ∧ PermIn a b d d' ∧ ∀ Q, CallR E false lim 80 [.slice p n cap, .int .i64 (a : Int), .int .i64 (b : Int), .func (.func cl) #[] cs.toArray] (DH encC G B d ++ X) Q = Q (.tuple #[]) (DH encC G B d' ++ (X ++ [.cells false [.int .u64 s]])) := by
  have key : CallR E false lim 80 [.slice p n cap, .int .i64 (a : Int), .int .i64 (b : Int), .func (.func cl) #[] cs.toArray] (DH encC G B d ++ X) fun v H' => ∃ d' s, d'.size = n ∧ PermIn a b d d' ∧ v = .tuple #[] ∧ H' = DH encC G B d' ++ (X ++ [.cells false [.int .u64 s]]) := by
    rw [CallR_run (E := E) (g := 80) (af := a80) (by simp [E, orc]) e80 rfl rfl]
    rw [b80, c80]
    have ld := fun (i : Nat) (X : Heap) (d : Array Clm) (hd : d.size = n) (hi : i < n) => DH_ld (X := X) (d := d) (i := i) hp hB encC_len (by omega); have st := fun (i : Nat) (X : Heap) (d : Array Clm) (hd : d.size = n) (hi : i < n) (y : Clm) => DH_st (X := X) (d := d) (i := i) (y := y) hp hB hl encC_len (by omega); have ix := fun (i : Nat) (hi : i < n) c (k : IntKind) (H : Heap) => DH_idx (e := 6) (i := i) (n := n) (c := c) (k := k) (H := H) hp hi
    have hlG : lim ≤ G.length + X.length := by omega
    obtain ⟨l, rfl⟩ : ∃ l, b = a + l := ⟨b - a, by omega⟩
    obtain ⟨m, hm0, hm1, hnpt⟩ := npt_ok (x := l) (by omega) (by omega)
    have hw0 : IntKind.i64.wrap (((a + l : Nat) : Int) - (a : Int)) = (l : Int) := wrap_int (by omega) (by omega)
    have hq : (l : Int).tdiv 4 = ((l / 4 : Nat) : Int) := tdiv_nat (b := 4)
    have hw1 : IntKind.i64.wrap ((l / 4 : Nat) : Int) = ((l / 4 : Nat) : Int) := wrap_int rfl (by omega)
    have hw3 : IntKind.i64.wrap (((l / 4 : Nat) : Int) * 2) = ((l / 4 * 2 : Nat) : Int) := wrap_int (by omega) (by omega)
    have hw6 : IntKind.i64.wrap ((a : Int) + ((l / 4 * 2 : Nat) : Int)) = ((a + l / 4 * 2 : Nat) : Int) := wrap_int (by omega) (by omega)
    have hw7 : IntKind.i64.wrap (((a + l / 4 * 2 : Nat) : Int) - 1) = ((a + l / 4 * 2 - 1 : Nat) : Int) := wrap_int (by omega) (by omega)
    have hw8 : IntKind.i64.wrap (((a + l / 4 * 2 : Nat) : Int) + 1) = ((a + l / 4 * 2 + 1 : Nat) : Int) := wrap_int (by omega) (by omega)
    have hwm : IntKind.u64.wrap ((m : Int) - 1) = ((m - 1 : Nat) : Int) := by rw [wrap64]; omega
    have c8 : (8 : Int) ≤ (l : Int) := by omega
    simp only [n80, r80, hw0, hq, hw1, hw3, hw6, hw7, c8, hnpt, cnt_get, cnt_set, DH_len, hlG, SB, Nat.reduceLT, callee, aOp, ne_eq, Nat.reduceEqDiff, aBin, aUn, if_true, if_false, reduceCtorEq, frame0, place, notTuple, Nat.reduceAdd, Nat.reduceLeDiff, resVal, dite_true, dite_false, Int.reduceEq, Int.reduceLT, Int.reduceLE]
    refine Ret_rounds (S := Nat × Array Clm × Int) (fun s => a + l + 5 - s.1) (fun s fr H => a < s.1 ∧ s.1 ≤ a + l / 4 * 2 + 2 ∧ fr 0 = .slice p n cap ∧ fr 1 = .int .i64 (a : Int) ∧ fr 8 = .int .i64 (l : Int) ∧ fr 9 = .pointer (some ⟨G.length + X.length, 0, none⟩) ∧ fr 10 = .int .u64 (m : Int) ∧ fr 11 = .int .i64 (s.1 : Int) ∧
      H = DH encC G B s.2.1 ++ (X ++ [.cells false [.int .u64 s.2.2]]) ∧ s.2.1.size = n ∧ PermIn a (a + l) d s.2.1) (a + l / 4 * 2 - 1, d, IntKind.u64.wrap (l : Int)) ⟨by simp only; omega, by simp only; omega, (by simp only [upd_same, upd_ne, ne_eq, Nat.reduceEqDiff, not_false_eq_true, frame0, List.getD_cons_zero, List.getD_cons_succ]), (by simp only [upd_same, upd_ne, ne_eq, Nat.reduceEqDiff, not_false_eq_true, frame0, List.getD_cons_zero, List.getD_cons_succ]), (by simp only [upd_same, upd_ne, ne_eq, Nat.reduceEqDiff, not_false_eq_true, frame0, List.getD_cons_zero, List.getD_cons_succ]), (by simp only [upd_same, upd_ne, ne_eq, Nat.reduceEqDiff, not_false_eq_true, frame0, List.getD_cons_zero, List.getD_cons_succ]), (by simp only [upd_same, upd_ne, ne_eq, Nat.reduceEqDiff, not_false_eq_true, frame0, List.getD_cons_zero, List.getD_cons_succ]), (by simp only [upd_same, upd_ne, ne_eq, Nat.reduceEqDiff, not_false_eq_true, frame0, List.getD_cons_zero, List.getD_cons_succ]), rfl, hd, permIn_refl _ _ _⟩ ?_
    rintro ⟨i, d1, s⟩ fr H ⟨h1, h2, g0, g1, g8, g9, g10, g11, rfl, hd1, hP⟩ hN
    simp only at h1 h2 g11 hd1 hP
    rw [Ret_code l80_1.eq_1]
    by_cases c1 : i ≤ a + (l / 4 * 2 + 1)
    · obtain ⟨s', _, hx⟩ := xor_ok (X := X) (d := d1) (s := s) (enc := encC) hl hB
      have hA := and_le (a := s') (b := ((m - 1 : Nat) : Int)) (by omega)
      generalize hr : IntKind.u64.wrap ((BitVec.ofInt IntKind.u64.bits s' &&& BitVec.ofInt IntKind.u64.bits ((m - 1 : Nat) : Int)).toNat : Int) = r at hA
      obtain ⟨r', rfl⟩ : ∃ r' : Nat, r = (r' : Int) := ⟨r.toNat, by omega⟩
      have hwr : IntKind.i64.wrap (r' : Int) = (r' : Int) := wrap_int rfl (by omega)
      have hwi : IntKind.i64.wrap ((i : Int) + 1) = ((i + 1 : Nat) : Int) := wrap_nat (by omega)
      have i1 : i < n := by omega
      by_cases c2 : l ≤ r'
      · have hw9 : IntKind.i64.wrap ((r' : Int) - (l : Int)) = ((r' - l : Nat) : Int) := wrap_int (by omega) (by omega)
        have hw10 : IntKind.i64.wrap ((a : Int) + ((r' - l : Nat) : Int)) = ((a + (r' - l) : Nat) : Int) := wrap_int (by omega) (by omega)
        have i2 : a + (r' - l) < n := by omega
        simp only [n80, r80, g0, g1, g8, g9, g10, g11, hw0, hq, hw1, hw3, hw6, hw8, c1, hx, hwm, hr, hwr, c2, hw9, hw10, ld, st, ix, List.append_nil, Array.size_setIfInBounds, encC_len, hd1, i1, i2, hwi, SB, Nat.reduceLT, callee, aOp, ne_eq, Nat.reduceEqDiff, aBin, aUn, if_true, if_false, reduceCtorEq, frame0, place, notTuple, Nat.reduceAdd, Nat.reduceLeDiff, resVal, dite_true, dite_false, Int.reduceEq, Int.reduceLT, Int.reduceLE]
        exact hN (i + 1, swp d1 i (a + (r' - l)), s') _ _ ⟨by simp only; omega, by simp only; omega, (by simp only [g0, upd_same, upd_ne, ne_eq, Nat.reduceEqDiff, not_false_eq_true, frame0, List.getD_cons_zero, List.getD_cons_succ]), (by simp only [g1, upd_same, upd_ne, ne_eq, Nat.reduceEqDiff, not_false_eq_true, frame0, List.getD_cons_zero, List.getD_cons_succ]), (by simp only [g8, upd_same, upd_ne, ne_eq, Nat.reduceEqDiff, not_false_eq_true, frame0, List.getD_cons_zero, List.getD_cons_succ]), (by simp only [g9, upd_same, upd_ne, ne_eq, Nat.reduceEqDiff, not_false_eq_true, frame0, List.getD_cons_zero, List.getD_cons_succ]), (by simp only [g10, upd_same, upd_ne, ne_eq, Nat.reduceEqDiff, not_false_eq_true, frame0, List.getD_cons_zero, List.getD_cons_succ]), (by simp only [upd_same, upd_ne, ne_eq, Nat.reduceEqDiff, not_false_eq_true, frame0, List.getD_cons_zero, List.getD_cons_succ]), by simp [swp], by simp [swp, hd1], permIn_trans _ _ _ _ _ hP (swp_permIn _ _ _ _ _ (by omega) (by omega) (by omega) (by omega) (by omega))⟩ (by simp only; omega)
      · have hw10 : IntKind.i64.wrap ((a : Int) + (r' : Int)) = ((a + r' : Nat) : Int) := wrap_int (by omega) (by omega)
        have i2 : a + r' < n := by omega
        simp only [n80, r80, g0, g1, g8, g9, g10, g11, hw0, hq, hw1, hw3, hw6, hw8, c1, hx, hwm, hr, hwr, c2, hw10, ld, st, ix, List.append_nil, Array.size_setIfInBounds, encC_len, hd1, i1, i2, hwi, SB, Nat.reduceLT, callee, aOp, ne_eq, Nat.reduceEqDiff, aBin, aUn, if_true, if_false, reduceCtorEq, frame0, place, notTuple, Nat.reduceAdd, Nat.reduceLeDiff, resVal, dite_true, dite_false, Int.reduceEq, Int.reduceLT, Int.reduceLE]
        exact hN (i + 1, swp d1 i (a + r'), s') _ _ ⟨by simp only; omega, by simp only; omega, (by simp only [g0, upd_same, upd_ne, ne_eq, Nat.reduceEqDiff, not_false_eq_true, frame0, List.getD_cons_zero, List.getD_cons_succ]), (by simp only [g1, upd_same, upd_ne, ne_eq, Nat.reduceEqDiff, not_false_eq_true, frame0, List.getD_cons_zero, List.getD_cons_succ]), (by simp only [g8, upd_same, upd_ne, ne_eq, Nat.reduceEqDiff, not_false_eq_true, frame0, List.getD_cons_zero, List.getD_cons_succ]), (by simp only [g9, upd_same, upd_ne, ne_eq, Nat.reduceEqDiff, not_false_eq_true, frame0, List.getD_cons_zero, List.getD_cons_succ]), (by simp only [g10, upd_same, upd_ne, ne_eq, Nat.reduceEqDiff, not_false_eq_true, frame0, List.getD_cons_zero, List.getD_cons_succ]), (by simp only [upd_same, upd_ne, ne_eq, Nat.reduceEqDiff, not_false_eq_true, frame0, List.getD_cons_zero, List.getD_cons_succ]), by simp [swp], by simp [swp, hd1], permIn_trans _ _ _ _ _ hP (swp_permIn _ _ _ _ _ (by omega) (by omega) (by omega) (by omega) (by omega))⟩ (by simp only; omega)
    · clear hN
      simp only [n80, r80, g0, g1, g8, g9, g10, g11, hw0, hq, hw1, hw3, hw6, hw8, c1, SB, Nat.reduceLT, callee, aOp, ne_eq, Nat.reduceEqDiff, aBin, aUn, if_true, if_false, reduceCtorEq, frame0, place, notTuple, Nat.reduceAdd, Nat.reduceLeDiff, resVal, dite_true, dite_false, Int.reduceEq, Int.reduceLT, Int.reduceLE]
      exact ⟨d1, s, hd1, hP, rfl⟩
  obtain ⟨k, v, H', hx, d', s, h1, h2, rfl, rfl⟩ := key
  exact ⟨d', s, h1, h2, fun Q => CallR.det hx⟩
end Go.Proofs.Ytlmoijifgbkapaa.Fn
namespace Go.Proofs.Ytlmoijifgbkapaa.Fn
open Go.AM Go.AM.Sym Go.Sort
set_option maxRecDepth 100000
set_option linter.unusedVariables false
set_option linter.unusedSimpArgs false
set_option maxHeartbeats 4000000

def tlc : ACode → ACode
  | .seq _ b => b
  | x => x
def unb : ACode → ACode
  | .block _ b => b
  | x => x
def q1 : ACode := tlc (tlc (tlc (tlc (unb l65_1))))
def q2 : ACode := tlc (tlc q1)
def q3 : ACode := tlc q2
def hdc : ACode → ACode
  | .seq a _ => a
  | x => x
def p1 : ACode := hdc (unb l65_1)
def p2 : ACode := hdc (tlc (unb l65_1))
def p3 : ACode := hdc (tlc (tlc (unb l65_1)))
def p4 : ACode := hdc (tlc (tlc (tlc (unb l65_1))))
theorem body_eq : l65_1 = .block 1 (.seq p1 (.seq p2 (.seq p3 (.seq p4 q1)))) := rfl
def p5 : ACode := hdc q2
theorem q2_eq : q2 = .seq p5 q3 := rfl
def p6 : ACode := hdc q1
def p7 : ACode := hdc (tlc q1)
theorem q1_eq : q1 = .seq p6 (.seq p7 q2) := rfl
/-- What a round ends with. -/
def Done (G : Heap) (B n : Nat) (c : Clm → Clm → Int) (a b : Nat) (d : Array Clm) (X : Heap) (v : Value) (H' : Heap) : Prop :=
  ∃ d' Y, d'.size = n ∧ PermIn a b d d' ∧ SortedIn (ltC c) a b d' ∧ v = .tuple #[] ∧ H' = DH encC G B d' ++ (X ++ Y)
theorem Done.perm {G : Heap} {B n : Nat} {c : Clm → Clm → Int} {a b : Nat} {d d1 : Array Clm} {X Y : Heap} {v : Value} {H' : Heap} (h : Done G B n c a b d1 (X ++ Y) v H') (hP : PermIn a b d d1) : Done G B n c a b d X v H' := by
  obtain ⟨d', Z, h1, h2, h3, h4, h5⟩ := h
  exact ⟨d', Y ++ Z, h1, permIn_trans _ _ _ _ _ hP h2, h3, h4, by rw [h5]; simp⟩

theorem pdq3 {G X : Heap} {B lim cap n : Nat} {p : Option Addr} {c : Clm → Clm → Int} {cl : FuncId} {cs : List Value} (hp : p = some ⟨B, 0, none⟩) (hB : B < G.length) (hl : lim ≤ B) (hn2 : n < 2 ^ 61) (hc : ∀ (mp : Bool) (lim : Nat) (x y : Clm) (H : Heap) (Q : Value → Heap → Prop), CallR E mp lim cl (.agg (encC x).toArray :: .agg (encC y).toArray :: cs) H Q = Q (.int .i64 (c x y)) H) (hS : SWO (ltC c)) {d : Array Clm} {a b v lm m : Nat} {wb wp : Bool} {fr : Nat → Value} {L : List AItem} (hT : ∀ (a b lm : Nat) (wb wp : Bool) (d : Array Clm) (X : Heap) (fr : Nat → Value), b - a < m → a ≤ b → b ≤ n → d.size = n → Below (ltC c) a b d → lm < 2 ^ 60 → fr 0 = .slice p n cap → fr 1 = .int .i64 (a : Int) → fr 2 = .int .i64 (b : Int) → fr 3 = .int .i64 (lm : Int) → fr 4 = .func (.func cl) #[] cs.toArray → fr 10 = .bool wb → fr 11 = .bool wp → Ret E a65 lim L fr (DH encC G B d ++ X) (Done G B n c a b d X)) (hC : ∀ (a b lm : Nat) (d : Array Clm) (X : Heap), b - a < m → a ≤ b → b ≤ n → d.size = n → Below (ltC c) a b d → lm < 2 ^ 60 → ∃ d' Y, d'.size = n ∧ PermIn a b d d' ∧ SortedIn (ltC c) a b d' ∧ ∀ Q, CallR E false lim 65 [.slice p n cap, .int .i64 (a : Int), .int .i64 (b : Int), .int .i64 (lm : Int), .func (.func cl) #[] cs.toArray] (DH encC G B d ++ X) Q = Q (.tuple #[]) (DH encC G B d' ++ (X ++ Y))) (hm : b - a ≤ m) (hd : d.size = n) (hb : b ≤ n) (hv : a ≤ v ∧ v < b) (hlm : lm < 2 ^ 60) (hBl : Below (ltC c) a b d) (g0 : fr 0 = .slice p n cap) (g1 : fr 1 = .int .i64 (a : Int)) (g2 : fr 2 = .int .i64 (b : Int)) (g3 : fr 3 = .int .i64 (lm : Int)) (g4 : fr 4 = .func (.func cl) #[] cs.toArray) (g10 : fr 10 = .bool wb) (g11 : fr 11 = .bool wp) (g12 : fr 12 = .int .i64 ((b - a : Nat) : Int)) (g13 : fr 13 = .int .i64 (v : Int)) :
    Ret E a65 lim (.code q3 :: .inBlock 1 :: L) fr (DH encC G B d ++ X) (Done G B n c a b d X) := by
  simp only [q3, q2, q1, tlc, unb, l65_1]
  have ld := fun (i : Nat) (X : Heap) (d : Array Clm) (hd : d.size = n) (hi : i < n) => DH_ld (X := X) (d := d) (i := i) hp hB encC_len (by omega); have st := fun (i : Nat) (X : Heap) (d : Array Clm) (hd : d.size = n) (hi : i < n) (y : Clm) => DH_st (X := X) (d := d) (i := i) (y := y) hp hB hl encC_len (by omega); have ix := fun (i : Nat) (hi : i < n) c (k : IntKind) (H : Heap) => DH_idx (e := 6) (i := i) (n := n) (c := c) (k := k) (H := H) hp hi
  have hw0 : 0 < a → IntKind.i64.wrap ((a : Int) - 1) = ((a - 1 : Nat) : Int) := fun h => wrap_pred h (by omega)
  have i1 : v < n := by omega
  by_cases c1 : 0 < a ∧ ¬ c d[a - 1]! d[v]! < 0
  · obtain ⟨c1, c2⟩ := c1
    have i2 : a - 1 < n := by omega
    have hpe := fun Q => peq_ok (X := X) (cap := cap) (a := a) (b := b) (v := v) (Q := Q) hp hB hl hn2 hc hd hb hv.1 hv.2
    generalize hx : partitionEqual (ltC c) d a b v = r at hpe
    obtain ⟨mid, d4⟩ := r
    obtain ⟨r1, r2, r3, r4, r5⟩ := round_eq hS (partitionEqual_holds (ltC c)) c1 hv.1 hv.2 (by omega) hBl (by simp [ltC, c2]) hx
    have hw0' := hw0 c1
    simp only [n65, r65, g0, g1, g2, g3, g4, g10, g11, g12, g13, c1, c2, hw0', ld, st, ix, List.append_nil, Array.size_setIfInBounds, encC_len, hd, i1, i2, hc, hpe, SB, Nat.reduceLT, callee, aOp, ne_eq, Nat.reduceEqDiff, aBin, aUn, if_true, if_false, reduceCtorEq, frame0, place, notTuple, Nat.reduceAdd, Nat.reduceLeDiff, resVal, dite_true, dite_false, Int.reduceEq, Int.reduceLT, Int.reduceLE]
    exact (hT mid b lm wb wp d4 X _ (by omega) r2 hb (by omega) r4 hlm (by simp only [g0, upd_same, upd_ne, ne_eq, Nat.reduceEqDiff, not_false_eq_true, frame0, List.getD_cons_zero, List.getD_cons_succ]) (by simp only [upd_same, upd_ne, ne_eq, Nat.reduceEqDiff, not_false_eq_true, frame0, List.getD_cons_zero, List.getD_cons_succ]) (by simp only [g2, upd_same, upd_ne, ne_eq, Nat.reduceEqDiff, not_false_eq_true, frame0, List.getD_cons_zero, List.getD_cons_succ]) (by simp only [g3, upd_same, upd_ne, ne_eq, Nat.reduceEqDiff, not_false_eq_true, frame0, List.getD_cons_zero, List.getD_cons_succ]) (by simp only [g4, upd_same, upd_ne, ne_eq, Nat.reduceEqDiff, not_false_eq_true, frame0, List.getD_cons_zero, List.getD_cons_succ]) (by simp only [g10, upd_same, upd_ne, ne_eq, Nat.reduceEqDiff, not_false_eq_true, frame0, List.getD_cons_zero, List.getD_cons_succ]) (by simp only [g11, upd_same, upd_ne, ne_eq, Nat.reduceEqDiff, not_false_eq_true, frame0, List.getD_cons_zero, List.getD_cons_succ])).mono fun v H' ⟨d', Y, s1, s2, s3, s4, s5⟩ => ⟨d', Y, s1, (r5 d' s2 s3).1, (r5 d' s2 s3).2, s4, s5⟩
  · have hpt := fun Q => part_sort (X := X) (cap := cap) (a := a) (b := b) (v := v) (Q := Q) hp hB hl hn2 hc hd hb hv.1 hv.2
    generalize hx : Sort.partition (ltC c) d a b v = r at hpt
    obtain ⟨mid, ap, d4⟩ := r
    obtain ⟨r1, r2, r3, r4, r5, r6, r7⟩ := round_part hS (partition_holds (ltC c)) hv.1 hv.2 (by omega) hBl hx
    simp only at hpt
    have hw1 : IntKind.i64.wrap ((mid : Int) - (a : Int)) = ((mid - a : Nat) : Int) := wrap_int (by omega) (by omega)
    have hw2 : IntKind.i64.wrap ((b : Int) - (mid : Int)) = ((b - mid : Nat) : Int) := wrap_int (by omega) (by omega)
    have hw3 : IntKind.i64.wrap ((mid : Int) + 1) = ((mid + 1 : Nat) : Int) := wrap_nat (by omega)
    have hq : ((b - a : Nat) : Int).tdiv 8 = (((b - a) / 8 : Nat) : Int) := tdiv_nat (b := 8)
    have hw4 : IntKind.i64.wrap (((b - a) / 8 : Nat) : Int) = (((b - a) / 8 : Nat) : Int) := wrap_int rfl (by omega)
    have hor : (0 < a ∧ c d[a - 1]! d[v]! < 0) ∨ ¬ 0 < a := by
      by_cases q : 0 < a
      · exact .inl ⟨q, Classical.byContradiction fun q2 => c1 ⟨q, q2⟩⟩
      · exact .inr q
    by_cases c5 : mid - a < b - mid
    · obtain ⟨dL, Y, l1, l2, l3, l4⟩ := hC a mid lm d4 X (by omega) r1 (by omega) (by omega) r4 hlm
      obtain ⟨k1, k2⟩ := r6 dL l2 l3
      rcases hor with ⟨c2, c3⟩ | c2
      · have hw0' := hw0 c2
        have i2 : a - 1 < n := by omega
        simp only [n65, r65, g0, g1, g2, g3, g4, g10, g11, g12, g13, c2, c3, hw0', ld, st, ix, List.append_nil, Array.size_setIfInBounds, encC_len, hd, i1, i2, hc, hpt, hw1, hw2, hw3, hq, hw4, c5, l4, SB, Nat.reduceLT, callee, aOp, ne_eq, Nat.reduceEqDiff, aBin, aUn, if_true, if_false, reduceCtorEq, frame0, place, notTuple, Nat.reduceAdd, Nat.reduceLeDiff, resVal, dite_true, dite_false, Int.reduceEq, Int.reduceLT, Int.reduceLE]
        exact (hT (mid + 1) b lm (decide ((b - a) / 8 ≤ mid - a)) ap dL (X ++ Y) _ (by omega) (by omega) hb l1 k1 hlm (by simp only [g0, upd_same, upd_ne, ne_eq, Nat.reduceEqDiff, not_false_eq_true, frame0, List.getD_cons_zero, List.getD_cons_succ]) (by simp only [upd_same, upd_ne, ne_eq, Nat.reduceEqDiff, not_false_eq_true, frame0, List.getD_cons_zero, List.getD_cons_succ]) (by simp only [g2, upd_same, upd_ne, ne_eq, Nat.reduceEqDiff, not_false_eq_true, frame0, List.getD_cons_zero, List.getD_cons_succ]) (by simp only [g3, upd_same, upd_ne, ne_eq, Nat.reduceEqDiff, not_false_eq_true, frame0, List.getD_cons_zero, List.getD_cons_succ]) (by simp only [g4, upd_same, upd_ne, ne_eq, Nat.reduceEqDiff, not_false_eq_true, frame0, List.getD_cons_zero, List.getD_cons_succ]) (by simp only [upd_same, upd_ne, ne_eq, Nat.reduceEqDiff, not_false_eq_true, frame0, List.getD_cons_zero, List.getD_cons_succ]) (by simp only [upd_same, upd_ne, ne_eq, Nat.reduceEqDiff, not_false_eq_true, frame0, List.getD_cons_zero, List.getD_cons_succ])).mono fun v H' ⟨d', Z, s1, s2, s3, s4, s5⟩ => ⟨d', Y ++ Z, s1, (k2 d' s2 s3).1, (k2 d' s2 s3).2, s4, by rw [s5]; simp⟩
      · simp only [n65, r65, g0, g1, g2, g3, g4, g10, g11, g12, g13, c2, ld, st, ix, List.append_nil, Array.size_setIfInBounds, encC_len, hd, i1, hc, hpt, hw1, hw2, hw3, hq, hw4, c5, l4, SB, Nat.reduceLT, callee, aOp, ne_eq, Nat.reduceEqDiff, aBin, aUn, if_true, if_false, reduceCtorEq, frame0, place, notTuple, Nat.reduceAdd, Nat.reduceLeDiff, resVal, dite_true, dite_false, Int.reduceEq, Int.reduceLT, Int.reduceLE]
        exact (hT (mid + 1) b lm (decide ((b - a) / 8 ≤ mid - a)) ap dL (X ++ Y) _ (by omega) (by omega) hb l1 k1 hlm (by simp only [g0, upd_same, upd_ne, ne_eq, Nat.reduceEqDiff, not_false_eq_true, frame0, List.getD_cons_zero, List.getD_cons_succ]) (by simp only [upd_same, upd_ne, ne_eq, Nat.reduceEqDiff, not_false_eq_true, frame0, List.getD_cons_zero, List.getD_cons_succ]) (by simp only [g2, upd_same, upd_ne, ne_eq, Nat.reduceEqDiff, not_false_eq_true, frame0, List.getD_cons_zero, List.getD_cons_succ]) (by simp only [g3, upd_same, upd_ne, ne_eq, Nat.reduceEqDiff, not_false_eq_true, frame0, List.getD_cons_zero, List.getD_cons_succ]) (by simp only [g4, upd_same, upd_ne, ne_eq, Nat.reduceEqDiff, not_false_eq_true, frame0, List.getD_cons_zero, List.getD_cons_succ]) (by simp only [upd_same, upd_ne, ne_eq, Nat.reduceEqDiff, not_false_eq_true, frame0, List.getD_cons_zero, List.getD_cons_succ]) (by simp only [upd_same, upd_ne, ne_eq, Nat.reduceEqDiff, not_false_eq_true, frame0, List.getD_cons_zero, List.getD_cons_succ])).mono fun v H' ⟨d', Z, s1, s2, s3, s4, s5⟩ => ⟨d', Y ++ Z, s1, (k2 d' s2 s3).1, (k2 d' s2 s3).2, s4, by rw [s5]; simp⟩
    · obtain ⟨dL, Y, l1, l2, l3, l4⟩ := hC (mid + 1) b lm d4 X (by omega) (by omega) hb (by omega) r5 hlm
      obtain ⟨k1, k2⟩ := r7 dL l2 l3
      rcases hor with ⟨c2, c3⟩ | c2
      · have hw0' := hw0 c2
        have i2 : a - 1 < n := by omega
        simp only [n65, r65, g0, g1, g2, g3, g4, g10, g11, g12, g13, c2, c3, hw0', ld, st, ix, List.append_nil, Array.size_setIfInBounds, encC_len, hd, i1, i2, hc, hpt, hw1, hw2, hw3, hq, hw4, c5, l4, SB, Nat.reduceLT, callee, aOp, ne_eq, Nat.reduceEqDiff, aBin, aUn, if_true, if_false, reduceCtorEq, frame0, place, notTuple, Nat.reduceAdd, Nat.reduceLeDiff, resVal, dite_true, dite_false, Int.reduceEq, Int.reduceLT, Int.reduceLE]
        exact (hT a mid lm (decide ((b - a) / 8 ≤ b - mid)) ap dL (X ++ Y) _ (by omega) r1 (by omega) l1 k1 hlm (by simp only [g0, upd_same, upd_ne, ne_eq, Nat.reduceEqDiff, not_false_eq_true, frame0, List.getD_cons_zero, List.getD_cons_succ]) (by simp only [g1, upd_same, upd_ne, ne_eq, Nat.reduceEqDiff, not_false_eq_true, frame0, List.getD_cons_zero, List.getD_cons_succ]) (by simp only [upd_same, upd_ne, ne_eq, Nat.reduceEqDiff, not_false_eq_true, frame0, List.getD_cons_zero, List.getD_cons_succ]) (by simp only [g3, upd_same, upd_ne, ne_eq, Nat.reduceEqDiff, not_false_eq_true, frame0, List.getD_cons_zero, List.getD_cons_succ]) (by simp only [g4, upd_same, upd_ne, ne_eq, Nat.reduceEqDiff, not_false_eq_true, frame0, List.getD_cons_zero, List.getD_cons_succ]) (by simp only [upd_same, upd_ne, ne_eq, Nat.reduceEqDiff, not_false_eq_true, frame0, List.getD_cons_zero, List.getD_cons_succ]) (by simp only [upd_same, upd_ne, ne_eq, Nat.reduceEqDiff, not_false_eq_true, frame0, List.getD_cons_zero, List.getD_cons_succ])).mono fun v H' ⟨d', Z, s1, s2, s3, s4, s5⟩ => ⟨d', Y ++ Z, s1, (k2 d' s2 s3).1, (k2 d' s2 s3).2, s4, by rw [s5]; simp⟩
      · simp only [n65, r65, g0, g1, g2, g3, g4, g10, g11, g12, g13, c2, ld, st, ix, List.append_nil, Array.size_setIfInBounds, encC_len, hd, i1, hc, hpt, hw1, hw2, hw3, hq, hw4, c5, l4, SB, Nat.reduceLT, callee, aOp, ne_eq, Nat.reduceEqDiff, aBin, aUn, if_true, if_false, reduceCtorEq, frame0, place, notTuple, Nat.reduceAdd, Nat.reduceLeDiff, resVal, dite_true, dite_false, Int.reduceEq, Int.reduceLT, Int.reduceLE]
        exact (hT a mid lm (decide ((b - a) / 8 ≤ b - mid)) ap dL (X ++ Y) _ (by omega) r1 (by omega) l1 k1 hlm (by simp only [g0, upd_same, upd_ne, ne_eq, Nat.reduceEqDiff, not_false_eq_true, frame0, List.getD_cons_zero, List.getD_cons_succ]) (by simp only [g1, upd_same, upd_ne, ne_eq, Nat.reduceEqDiff, not_false_eq_true, frame0, List.getD_cons_zero, List.getD_cons_succ]) (by simp only [upd_same, upd_ne, ne_eq, Nat.reduceEqDiff, not_false_eq_true, frame0, List.getD_cons_zero, List.getD_cons_succ]) (by simp only [g3, upd_same, upd_ne, ne_eq, Nat.reduceEqDiff, not_false_eq_true, frame0, List.getD_cons_zero, List.getD_cons_succ]) (by simp only [g4, upd_same, upd_ne, ne_eq, Nat.reduceEqDiff, not_false_eq_true, frame0, List.getD_cons_zero, List.getD_cons_succ]) (by simp only [upd_same, upd_ne, ne_eq, Nat.reduceEqDiff, not_false_eq_true, frame0, List.getD_cons_zero, List.getD_cons_succ]) (by simp only [upd_same, upd_ne, ne_eq, Nat.reduceEqDiff, not_false_eq_true, frame0, List.getD_cons_zero, List.getD_cons_succ])).mono fun v H' ⟨d', Z, s1, s2, s3, s4, s5⟩ => ⟨d', Y ++ Z, s1, (k2 d' s2 s3).1, (k2 d' s2 s3).2, s4, by rw [s5]; simp⟩

theorem pdq2 {G X : Heap} {B lim cap n : Nat} {p : Option Addr} {c : Clm → Clm → Int} {cl : FuncId} {cs : List Value} (hp : p = some ⟨B, 0, none⟩) (hB : B < G.length) (hl : lim ≤ B) (hn2 : n < 2 ^ 61) (hc : ∀ (mp : Bool) (lim : Nat) (x y : Clm) (H : Heap) (Q : Value → Heap → Prop), CallR E mp lim cl (.agg (encC x).toArray :: .agg (encC y).toArray :: cs) H Q = Q (.int .i64 (c x y)) H) (hS : SWO (ltC c)) {d : Array Clm} {a b v h lm m : Nat} {wb wp : Bool} {fr : Nat → Value} {L : List AItem} (hT : ∀ (a b lm : Nat) (wb wp : Bool) (d : Array Clm) (X : Heap) (fr : Nat → Value), b - a < m → a ≤ b → b ≤ n → d.size = n → Below (ltC c) a b d → lm < 2 ^ 60 → fr 0 = .slice p n cap → fr 1 = .int .i64 (a : Int) → fr 2 = .int .i64 (b : Int) → fr 3 = .int .i64 (lm : Int) → fr 4 = .func (.func cl) #[] cs.toArray → fr 10 = .bool wb → fr 11 = .bool wp → Ret E a65 lim L fr (DH encC G B d ++ X) (Done G B n c a b d X)) (hC : ∀ (a b lm : Nat) (d : Array Clm) (X : Heap), b - a < m → a ≤ b → b ≤ n → d.size = n → Below (ltC c) a b d → lm < 2 ^ 60 → ∃ d' Y, d'.size = n ∧ PermIn a b d d' ∧ SortedIn (ltC c) a b d' ∧ ∀ Q, CallR E false lim 65 [.slice p n cap, .int .i64 (a : Int), .int .i64 (b : Int), .int .i64 (lm : Int), .func (.func cl) #[] cs.toArray] (DH encC G B d ++ X) Q = Q (.tuple #[]) (DH encC G B d' ++ (X ++ Y))) (hm : b - a ≤ m) (hd : d.size = n) (hb : b ≤ n) (hv : a ≤ v ∧ v < b) (hlm : lm < 2 ^ 60) (hh : h ≤ 2) (hBl : Below (ltC c) a b d) (g0 : fr 0 = .slice p n cap) (g1 : fr 1 = .int .i64 (a : Int)) (g2 : fr 2 = .int .i64 (b : Int)) (g3 : fr 3 = .int .i64 (lm : Int)) (g4 : fr 4 = .func (.func cl) #[] cs.toArray) (g10 : fr 10 = .bool wb) (g11 : fr 11 = .bool wp) (g12 : fr 12 = .int .i64 ((b - a : Nat) : Int)) (g13 : fr 13 = .int .i64 (v : Int)) (g14 : fr 14 = .int .i64 (h : Int)) :
    Ret E a65 lim (.code q2 :: .inBlock 1 :: L) fr (DH encC G B d ++ X) (Done G B n c a b d X) := by
  have h3 := fun d fr hd hBl => pdq3 (X := X) (d := d) (fr := fr) (a := a) (b := b) (v := v) (lm := lm) (wb := wb) (wp := wp) hp hB hl hn2 hc hS hT hC hm hd hb hv hlm hBl
  by_cases c1 : wb = true ∧ wp = true ∧ h = 1
  · obtain ⟨rfl, rfl, rfl⟩ := c1
    have hpi := fun Q => pis_ok (X := X) (cap := cap) (a := a) (b := b) (Q := Q) hp hB hl hn2 hc hd hb (by omega)
    have hps := partialInsertionSort_holds hS d a b (by omega) (by omega) hBl
    generalize partialInsertionSort (ltC c) d a b = r at hpi hps
    obtain ⟨d3, fl⟩ := r
    obtain ⟨P3, S3⟩ := hps
    simp only at hpi P3 S3
    have g14' : fr 14 = .int .i64 1 := g14
    have hd3 : d3.size = n := by rw [P3.1]; exact hd
    cases fl with
    | true =>
      rw [Ret_code q2_eq]; simp only [p5, hdc, tlc, unb, q1, q2, l65_1]
      simp only [n65, r65, g0, g1, g2, g3, g4, g10, g11, g12, g13, g14', hpi, SB, Nat.reduceLT, callee, aOp, ne_eq, Nat.reduceEqDiff, aBin, aUn, if_true, if_false, reduceCtorEq, frame0, place, notTuple, Nat.reduceAdd, Nat.reduceLeDiff, resVal, dite_true, dite_false, Int.reduceEq, Int.reduceLT, Int.reduceLE]
      exact ⟨d3, [], hd3, P3, S3 rfl, rfl, by simp⟩
    | false =>
      have hB3 := hBl.perm (by omega) P3
      have := h3 d3
      rw [Ret_code q2_eq]; simp only [p5, hdc, tlc, unb, q1, q2, l65_1]
      simp only [n65, r65, g0, g1, g2, g3, g4, g10, g11, g12, g13, g14', hpi, SB, Nat.reduceLT, callee, aOp, ne_eq, Nat.reduceEqDiff, aBin, aUn, if_true, if_false, reduceCtorEq, frame0, place, notTuple, Nat.reduceAdd, Nat.reduceLeDiff, resVal, dite_true, dite_false, Int.reduceEq, Int.reduceLT, Int.reduceLE]
      refine Ret.mono (h3 d3 _ hd3 hB3 (by simp only [g0, upd_same, upd_ne, ne_eq, Nat.reduceEqDiff, not_false_eq_true, frame0, List.getD_cons_zero, List.getD_cons_succ]) (by simp only [g1, upd_same, upd_ne, ne_eq, Nat.reduceEqDiff, not_false_eq_true, frame0, List.getD_cons_zero, List.getD_cons_succ]) (by simp only [g2, upd_same, upd_ne, ne_eq, Nat.reduceEqDiff, not_false_eq_true, frame0, List.getD_cons_zero, List.getD_cons_succ]) (by simp only [g3, upd_same, upd_ne, ne_eq, Nat.reduceEqDiff, not_false_eq_true, frame0, List.getD_cons_zero, List.getD_cons_succ]) (by simp only [g4, upd_same, upd_ne, ne_eq, Nat.reduceEqDiff, not_false_eq_true, frame0, List.getD_cons_zero, List.getD_cons_succ]) (by simp only [g10, upd_same, upd_ne, ne_eq, Nat.reduceEqDiff, not_false_eq_true, frame0, List.getD_cons_zero, List.getD_cons_succ]) (by simp only [g11, upd_same, upd_ne, ne_eq, Nat.reduceEqDiff, not_false_eq_true, frame0, List.getD_cons_zero, List.getD_cons_succ]) (by simp only [g12, upd_same, upd_ne, ne_eq, Nat.reduceEqDiff, not_false_eq_true, frame0, List.getD_cons_zero, List.getD_cons_succ]) (by simp only [g13, upd_same, upd_ne, ne_eq, Nat.reduceEqDiff, not_false_eq_true, frame0, List.getD_cons_zero, List.getD_cons_succ])) fun v' H' hq => ?_
      exact Done.perm (Y := []) (by rw [List.append_nil]; exact hq) P3
  · have h3' := h3 d
    rw [Ret_code q2_eq]; simp only [p5, hdc, tlc, unb, q1, q2, l65_1]
    cases wb with
    | false =>
      simp only [n65, r65, g0, g1, g2, g3, g4, g10, g11, g12, g13, g14, SB, Nat.reduceLT, callee, aOp, ne_eq, Nat.reduceEqDiff, aBin, aUn, if_true, if_false, reduceCtorEq, frame0, place, notTuple, Nat.reduceAdd, Nat.reduceLeDiff, resVal, dite_true, dite_false, Int.reduceEq, Int.reduceLT, Int.reduceLE]
      exact h3' _ hd hBl (by simp only [g0, upd_same, upd_ne, ne_eq, Nat.reduceEqDiff, not_false_eq_true, frame0, List.getD_cons_zero, List.getD_cons_succ]) (by simp only [g1, upd_same, upd_ne, ne_eq, Nat.reduceEqDiff, not_false_eq_true, frame0, List.getD_cons_zero, List.getD_cons_succ]) (by simp only [g2, upd_same, upd_ne, ne_eq, Nat.reduceEqDiff, not_false_eq_true, frame0, List.getD_cons_zero, List.getD_cons_succ]) (by simp only [g3, upd_same, upd_ne, ne_eq, Nat.reduceEqDiff, not_false_eq_true, frame0, List.getD_cons_zero, List.getD_cons_succ]) (by simp only [g4, upd_same, upd_ne, ne_eq, Nat.reduceEqDiff, not_false_eq_true, frame0, List.getD_cons_zero, List.getD_cons_succ]) (by simp only [g10, upd_same, upd_ne, ne_eq, Nat.reduceEqDiff, not_false_eq_true, frame0, List.getD_cons_zero, List.getD_cons_succ]) (by simp only [g11, upd_same, upd_ne, ne_eq, Nat.reduceEqDiff, not_false_eq_true, frame0, List.getD_cons_zero, List.getD_cons_succ]) (by simp only [g12, upd_same, upd_ne, ne_eq, Nat.reduceEqDiff, not_false_eq_true, frame0, List.getD_cons_zero, List.getD_cons_succ]) (by simp only [g13, upd_same, upd_ne, ne_eq, Nat.reduceEqDiff, not_false_eq_true, frame0, List.getD_cons_zero, List.getD_cons_succ])
    | true =>
      cases wp with
      | false =>
        simp only [n65, r65, g0, g1, g2, g3, g4, g10, g11, g12, g13, g14, SB, Nat.reduceLT, callee, aOp, ne_eq, Nat.reduceEqDiff, aBin, aUn, if_true, if_false, reduceCtorEq, frame0, place, notTuple, Nat.reduceAdd, Nat.reduceLeDiff, resVal, dite_true, dite_false, Int.reduceEq, Int.reduceLT, Int.reduceLE]
        exact h3' _ hd hBl (by simp only [g0, upd_same, upd_ne, ne_eq, Nat.reduceEqDiff, not_false_eq_true, frame0, List.getD_cons_zero, List.getD_cons_succ]) (by simp only [g1, upd_same, upd_ne, ne_eq, Nat.reduceEqDiff, not_false_eq_true, frame0, List.getD_cons_zero, List.getD_cons_succ]) (by simp only [g2, upd_same, upd_ne, ne_eq, Nat.reduceEqDiff, not_false_eq_true, frame0, List.getD_cons_zero, List.getD_cons_succ]) (by simp only [g3, upd_same, upd_ne, ne_eq, Nat.reduceEqDiff, not_false_eq_true, frame0, List.getD_cons_zero, List.getD_cons_succ]) (by simp only [g4, upd_same, upd_ne, ne_eq, Nat.reduceEqDiff, not_false_eq_true, frame0, List.getD_cons_zero, List.getD_cons_succ]) (by simp only [g10, upd_same, upd_ne, ne_eq, Nat.reduceEqDiff, not_false_eq_true, frame0, List.getD_cons_zero, List.getD_cons_succ]) (by simp only [g11, upd_same, upd_ne, ne_eq, Nat.reduceEqDiff, not_false_eq_true, frame0, List.getD_cons_zero, List.getD_cons_succ]) (by simp only [g12, upd_same, upd_ne, ne_eq, Nat.reduceEqDiff, not_false_eq_true, frame0, List.getD_cons_zero, List.getD_cons_succ]) (by simp only [g13, upd_same, upd_ne, ne_eq, Nat.reduceEqDiff, not_false_eq_true, frame0, List.getD_cons_zero, List.getD_cons_succ])
      | true =>
        have c2 : ¬ (h : Int) = 1 := fun q => c1 ⟨rfl, rfl, by omega⟩
        simp only [n65, r65, g0, g1, g2, g3, g4, g10, g11, g12, g13, g14, c2, SB, Nat.reduceLT, callee, aOp, ne_eq, Nat.reduceEqDiff, aBin, aUn, if_true, if_false, reduceCtorEq, frame0, place, notTuple, Nat.reduceAdd, Nat.reduceLeDiff, resVal, dite_true, dite_false, Int.reduceEq, Int.reduceLT, Int.reduceLE]
        exact h3' _ hd hBl (by simp only [g0, upd_same, upd_ne, ne_eq, Nat.reduceEqDiff, not_false_eq_true, frame0, List.getD_cons_zero, List.getD_cons_succ]) (by simp only [g1, upd_same, upd_ne, ne_eq, Nat.reduceEqDiff, not_false_eq_true, frame0, List.getD_cons_zero, List.getD_cons_succ]) (by simp only [g2, upd_same, upd_ne, ne_eq, Nat.reduceEqDiff, not_false_eq_true, frame0, List.getD_cons_zero, List.getD_cons_succ]) (by simp only [g3, upd_same, upd_ne, ne_eq, Nat.reduceEqDiff, not_false_eq_true, frame0, List.getD_cons_zero, List.getD_cons_succ]) (by simp only [g4, upd_same, upd_ne, ne_eq, Nat.reduceEqDiff, not_false_eq_true, frame0, List.getD_cons_zero, List.getD_cons_succ]) (by simp only [g10, upd_same, upd_ne, ne_eq, Nat.reduceEqDiff, not_false_eq_true, frame0, List.getD_cons_zero, List.getD_cons_succ]) (by simp only [g11, upd_same, upd_ne, ne_eq, Nat.reduceEqDiff, not_false_eq_true, frame0, List.getD_cons_zero, List.getD_cons_succ]) (by simp only [g12, upd_same, upd_ne, ne_eq, Nat.reduceEqDiff, not_false_eq_true, frame0, List.getD_cons_zero, List.getD_cons_succ]) (by simp only [g13, upd_same, upd_ne, ne_eq, Nat.reduceEqDiff, not_false_eq_true, frame0, List.getD_cons_zero, List.getD_cons_succ])

theorem pdq1 {G X : Heap} {B lim cap n : Nat} {p : Option Addr} {c : Clm → Clm → Int} {cl : FuncId} {cs : List Value} (hp : p = some ⟨B, 0, none⟩) (hB : B < G.length) (hl : lim ≤ B) (hn2 : n < 2 ^ 61) (hc : ∀ (mp : Bool) (lim : Nat) (x y : Clm) (H : Heap) (Q : Value → Heap → Prop), CallR E mp lim cl (.agg (encC x).toArray :: .agg (encC y).toArray :: cs) H Q = Q (.int .i64 (c x y)) H) (hS : SWO (ltC c)) {d : Array Clm} {a b lm m : Nat} {wb wp : Bool} {fr : Nat → Value} {L : List AItem} (hT : ∀ (a b lm : Nat) (wb wp : Bool) (d : Array Clm) (X : Heap) (fr : Nat → Value), b - a < m → a ≤ b → b ≤ n → d.size = n → Below (ltC c) a b d → lm < 2 ^ 60 → fr 0 = .slice p n cap → fr 1 = .int .i64 (a : Int) → fr 2 = .int .i64 (b : Int) → fr 3 = .int .i64 (lm : Int) → fr 4 = .func (.func cl) #[] cs.toArray → fr 10 = .bool wb → fr 11 = .bool wp → Ret E a65 lim L fr (DH encC G B d ++ X) (Done G B n c a b d X)) (hC : ∀ (a b lm : Nat) (d : Array Clm) (X : Heap), b - a < m → a ≤ b → b ≤ n → d.size = n → Below (ltC c) a b d → lm < 2 ^ 60 → ∃ d' Y, d'.size = n ∧ PermIn a b d d' ∧ SortedIn (ltC c) a b d' ∧ ∀ Q, CallR E false lim 65 [.slice p n cap, .int .i64 (a : Int), .int .i64 (b : Int), .int .i64 (lm : Int), .func (.func cl) #[] cs.toArray] (DH encC G B d ++ X) Q = Q (.tuple #[]) (DH encC G B d' ++ (X ++ Y))) (hm : b - a ≤ m) (hd : d.size = n) (hb : b ≤ n) (hab : a + 12 < b) (hlm : lm < 2 ^ 60) (hBl : Below (ltC c) a b d) (g0 : fr 0 = .slice p n cap) (g1 : fr 1 = .int .i64 (a : Int)) (g2 : fr 2 = .int .i64 (b : Int)) (g3 : fr 3 = .int .i64 (lm : Int)) (g4 : fr 4 = .func (.func cl) #[] cs.toArray) (g10 : fr 10 = .bool wb) (g11 : fr 11 = .bool wp) (g12 : fr 12 = .int .i64 ((b - a : Nat) : Int)) :
    Ret E a65 lim (.code q1 :: .inBlock 1 :: L) fr (DH encC G B d ++ X) (Done G B n c a b d X) := by
  obtain ⟨v, h, s, v1, v2, hh, hcho⟩ := cho_ok (X := X) (cap := cap) (lim := lim) hp hB hl hn2 hc hd hb hab
  by_cases c1 : h = 2
  · subst c1
    have hr := fun Q => rev_ok (X := X ++ [.cells false [.int .i64 (s : Int)]]) (cap := cap) (a := a) (b := b) (Q := Q) hp hB hl hn2 hc hd hb (by omega)
    have P2 := reverseRange_holds d a b (by omega) (by omega)
    generalize reverseRange d a b = d2 at hr P2
    have hd2 : d2.size = n := by rw [P2.1]; exact hd
    have hB2 := hBl.perm (by omega) P2
    have h2 := fun fr => pdq2 (X := X ++ [.cells false [.int .i64 (s : Int)]]) (d := d2) (fr := fr) (a := a) (b := b) (v := b - 1 - (v - a)) (h := 1) (lm := lm) (wb := wb) (wp := wp) hp hB hl hn2 hc hS hT hC hm hd2 hb (by omega) hlm (by omega) hB2
    have hw1 : IntKind.i64.wrap ((b : Int) - 1) = ((b - 1 : Nat) : Int) := wrap_int (by omega) (by omega)
    have hw2 : IntKind.i64.wrap ((v : Int) - (a : Int)) = ((v - a : Nat) : Int) := wrap_int (by omega) (by omega)
    have hw3 : IntKind.i64.wrap (((b - 1 : Nat) : Int) - ((v - a : Nat) : Int)) = ((b - 1 - (v - a) : Nat) : Int) := wrap_int (by omega) (by omega)
    have hcho' : ∀ Q, CallR E false lim 81 [.slice p n cap, .int .i64 (a : Int), .int .i64 (b : Int), .func (.func cl) #[] cs.toArray] (DH encC G B d ++ X) Q = Q (.tuple #[.int .i64 (v : Int), .int .i64 2]) (DH encC G B d ++ (X ++ [.cells false [.int .i64 (s : Int)]])) := hcho
    rw [Ret_code q1_eq]; simp only [p6, p7, hdc, tlc, unb, q1, l65_1]
    simp only [n65, r65, g0, g1, g2, g3, g4, g10, g11, g12, hcho', hr, hw1, hw2, hw3, SB, Nat.reduceLT, callee, aOp, ne_eq, Nat.reduceEqDiff, aBin, aUn, if_true, if_false, reduceCtorEq, frame0, place, notTuple, Nat.reduceAdd, Nat.reduceLeDiff, resVal, dite_true, dite_false, Int.reduceEq, Int.reduceLT, Int.reduceLE]
    refine Ret.mono (h2 _ (by simp only [g0, upd_same, upd_ne, ne_eq, Nat.reduceEqDiff, not_false_eq_true, frame0, List.getD_cons_zero, List.getD_cons_succ]) (by simp only [g1, upd_same, upd_ne, ne_eq, Nat.reduceEqDiff, not_false_eq_true, frame0, List.getD_cons_zero, List.getD_cons_succ]) (by simp only [g2, upd_same, upd_ne, ne_eq, Nat.reduceEqDiff, not_false_eq_true, frame0, List.getD_cons_zero, List.getD_cons_succ]) (by simp only [g3, upd_same, upd_ne, ne_eq, Nat.reduceEqDiff, not_false_eq_true, frame0, List.getD_cons_zero, List.getD_cons_succ]) (by simp only [g4, upd_same, upd_ne, ne_eq, Nat.reduceEqDiff, not_false_eq_true, frame0, List.getD_cons_zero, List.getD_cons_succ]) (by simp only [g10, upd_same, upd_ne, ne_eq, Nat.reduceEqDiff, not_false_eq_true, frame0, List.getD_cons_zero, List.getD_cons_succ]) (by simp only [g11, upd_same, upd_ne, ne_eq, Nat.reduceEqDiff, not_false_eq_true, frame0, List.getD_cons_zero, List.getD_cons_succ]) (by simp only [g12, upd_same, upd_ne, ne_eq, Nat.reduceEqDiff, not_false_eq_true, frame0, List.getD_cons_zero, List.getD_cons_succ]) (by simp only [upd_same, upd_ne, ne_eq, Nat.reduceEqDiff, not_false_eq_true, frame0, List.getD_cons_zero, List.getD_cons_succ]) (by simp only [upd_same, upd_ne, ne_eq, Nat.reduceEqDiff, not_false_eq_true]; rfl)) fun v' H' hq => ?_
    exact Done.perm hq P2
  · have c2 : ¬ (h : Int) = 2 := by omega
    have h2 := fun fr => pdq2 (X := X ++ [.cells false [.int .i64 (s : Int)]]) (d := d) (fr := fr) (a := a) (b := b) (v := v) (h := h) (lm := lm) (wb := wb) (wp := wp) hp hB hl hn2 hc hS hT hC hm hd hb (by omega) hlm (by omega) hBl
    rw [Ret_code q1_eq]; simp only [p6, p7, hdc, tlc, unb, q1, l65_1]
    simp only [n65, r65, g0, g1, g2, g3, g4, g10, g11, g12, hcho, c2, SB, Nat.reduceLT, callee, aOp, ne_eq, Nat.reduceEqDiff, aBin, aUn, if_true, if_false, reduceCtorEq, frame0, place, notTuple, Nat.reduceAdd, Nat.reduceLeDiff, resVal, dite_true, dite_false, Int.reduceEq, Int.reduceLT, Int.reduceLE]
    refine Ret.mono (h2 _ (by simp only [g0, upd_same, upd_ne, ne_eq, Nat.reduceEqDiff, not_false_eq_true, frame0, List.getD_cons_zero, List.getD_cons_succ]) (by simp only [g1, upd_same, upd_ne, ne_eq, Nat.reduceEqDiff, not_false_eq_true, frame0, List.getD_cons_zero, List.getD_cons_succ]) (by simp only [g2, upd_same, upd_ne, ne_eq, Nat.reduceEqDiff, not_false_eq_true, frame0, List.getD_cons_zero, List.getD_cons_succ]) (by simp only [g3, upd_same, upd_ne, ne_eq, Nat.reduceEqDiff, not_false_eq_true, frame0, List.getD_cons_zero, List.getD_cons_succ]) (by simp only [g4, upd_same, upd_ne, ne_eq, Nat.reduceEqDiff, not_false_eq_true, frame0, List.getD_cons_zero, List.getD_cons_succ]) (by simp only [g10, upd_same, upd_ne, ne_eq, Nat.reduceEqDiff, not_false_eq_true, frame0, List.getD_cons_zero, List.getD_cons_succ]) (by simp only [g11, upd_same, upd_ne, ne_eq, Nat.reduceEqDiff, not_false_eq_true, frame0, List.getD_cons_zero, List.getD_cons_succ]) (by simp only [g12, upd_same, upd_ne, ne_eq, Nat.reduceEqDiff, not_false_eq_true, frame0, List.getD_cons_zero, List.getD_cons_succ]) (by simp only [upd_same, upd_ne, ne_eq, Nat.reduceEqDiff, not_false_eq_true, frame0, List.getD_cons_zero, List.getD_cons_succ]) (by simp only [upd_same, upd_ne, ne_eq, Nat.reduceEqDiff, not_false_eq_true, frame0, List.getD_cons_zero, List.getD_cons_succ])) fun v' H' hq => ?_
    exact Done.perm hq (permIn_refl _ _ _)

theorem pdq_loop {G X : Heap} {B lim cap n : Nat} {p : Option Addr} {c : Clm → Clm → Int} {cl : FuncId} {cs : List Value} (hp : p = some ⟨B, 0, none⟩) (hB : B < G.length) (hl : lim ≤ B) (hn2 : n < 2 ^ 61) (hc : ∀ (mp : Bool) (lim : Nat) (x y : Clm) (H : Heap) (Q : Value → Heap → Prop), CallR E mp lim cl (.agg (encC x).toArray :: .agg (encC y).toArray :: cs) H Q = Q (.int .i64 (c x y)) H) (hS : SWO (ltC c)) (hn3 : n < 65536) : ∀ (m a b lm : Nat) (wb wp : Bool) (d : Array Clm) (X : Heap) (fr : Nat → Value), b - a < m → a ≤ b → b ≤ n → d.size = n → Below (ltC c) a b d → lm < 2 ^ 60 → fr 0 = .slice p n cap → fr 1 = .int .i64 (a : Int) → fr 2 = .int .i64 (b : Int) → fr 3 = .int .i64 (lm : Int) → fr 4 = .func (.func cl) #[] cs.toArray → fr 10 = .bool wb → fr 11 = .bool wp →
    Ret E a65 lim (.inLoop l65_1 :: .inBlock 0 :: []) fr (DH encC G B d ++ X) (Done G B n c a b d X) := by
  intro m
  induction m with
  | zero => intro a b lm wb wp d X fr h; omega
  | succ m ih =>
    intro a b lm wb wp d X fr hlt hab hb hd hBl hlm g0 g1 g2 g3 g4 g10 g11
    have hC : ∀ (a b lm : Nat) (d : Array Clm) (X : Heap), b - a < m → a ≤ b → b ≤ n → d.size = n → Below (ltC c) a b d → lm < 2 ^ 60 → ∃ d' Y, d'.size = n ∧ PermIn a b d d' ∧ SortedIn (ltC c) a b d' ∧ ∀ Q, CallR E false lim 65 [.slice p n cap, .int .i64 (a : Int), .int .i64 (b : Int), .int .i64 (lm : Int), .func (.func cl) #[] cs.toArray] (DH encC G B d ++ X) Q = Q (.tuple #[]) (DH encC G B d' ++ (X ++ Y)) := by
      intro a b lm d X k1 k2 k3 k4 k5 k6
      have key : CallR E false lim 65 [.slice p n cap, .int .i64 (a : Int), .int .i64 (b : Int), .int .i64 (lm : Int), .func (.func cl) #[] cs.toArray] (DH encC G B d ++ X) (Done G B n c a b d X) := by
        rw [CallR_run (E := E) (g := 65) (af := a65) (by simp [E, orc]) e65 rfl rfl]
        rw [b65, c65]
        simp only [n65, r65, SB, Nat.reduceLT, callee, aOp, ne_eq, Nat.reduceEqDiff, aBin, aUn, if_true, if_false, reduceCtorEq, frame0, place, notTuple, Nat.reduceAdd, Nat.reduceLeDiff, resVal, dite_true, dite_false, Int.reduceEq, Int.reduceLT, Int.reduceLE]
        rw [Ret_loop, ← Ret_inLoop]
        exact ih a b lm true true d X _ k1 k2 k3 k4 k5 k6 (by simp only [upd_same, upd_ne, ne_eq, Nat.reduceEqDiff, not_false_eq_true, frame0, List.getD_cons_zero, List.getD_cons_succ]) (by simp only [upd_same, upd_ne, ne_eq, Nat.reduceEqDiff, not_false_eq_true, frame0, List.getD_cons_zero, List.getD_cons_succ]) (by simp only [upd_same, upd_ne, ne_eq, Nat.reduceEqDiff, not_false_eq_true, frame0, List.getD_cons_zero, List.getD_cons_succ]) (by simp only [upd_same, upd_ne, ne_eq, Nat.reduceEqDiff, not_false_eq_true, frame0, List.getD_cons_zero, List.getD_cons_succ]) (by simp only [upd_same, upd_ne, ne_eq, Nat.reduceEqDiff, not_false_eq_true, frame0, List.getD_cons_zero, List.getD_cons_succ]) (by simp only [upd_same, upd_ne, ne_eq, Nat.reduceEqDiff, not_false_eq_true, frame0, List.getD_cons_zero, List.getD_cons_succ]) (by simp only [upd_same, upd_ne, ne_eq, Nat.reduceEqDiff, not_false_eq_true, frame0, List.getD_cons_zero, List.getD_cons_succ])
      obtain ⟨k, v, H', hx, d', Y, h1, h2, h3, rfl, rfl⟩ := key
      exact ⟨d', Y, h1, h2, h3, fun Q => CallR.det hx⟩
    have h1 := fun d X fr lm hd hBl hab hlm => pdq1 (X := X) (d := d) (fr := fr) (a := a) (b := b) (lm := lm) (wb := wb) (wp := wp) (m := m) (L := .inLoop l65_1 :: .inBlock 0 :: []) hp hB hl hn2 hc hS ih hC (by omega) hd hb hab hlm hBl
    rw [Ret_inLoop]
    generalize (AItem.inLoop l65_1 :: [AItem.inBlock 0]) = L at h1
    rw [Ret_code body_eq]; simp only [p1, p2, p3, p4, hdc, tlc, unb, l65_1]
    have hw1 : IntKind.i64.wrap ((b : Int) - (a : Int)) = ((b - a : Nat) : Int) := wrap_int (by omega) (by omega)
    by_cases c1 : b - a ≤ 12
    · have c1' : ((b - a : Nat) : Int) ≤ 12 := by omega
      have hi := fun Q => ins_ok (X := X) (cap := cap) (a := a) (b := b) (Q := Q) hp hB hl hn2 hc hd hb hab
      obtain ⟨P, S⟩ := insertionSort_holds hS d a b hab (by omega)
      simp only [n65, r65, g0, g1, g2, g3, g4, g10, g11, hw1, c1', hi, SB, Nat.reduceLT, callee, aOp, ne_eq, Nat.reduceEqDiff, aBin, aUn, if_true, if_false, reduceCtorEq, frame0, place, notTuple, Nat.reduceAdd, Nat.reduceLeDiff, resVal, dite_true, dite_false, Int.reduceEq, Int.reduceLT, Int.reduceLE]
      exact ⟨_, [], by rw [P.1]; exact hd, P, S, rfl, by simp⟩
    have c1' : ¬ ((b - a : Nat) : Int) ≤ 12 := by omega
    by_cases c2 : lm = 0
    · have c2' : (lm : Int) = 0 := by omega
      have hi := fun Q => heap_ok (X := X) (cap := cap) (a := a) (b := b) (Q := Q) hp hB hl hn2 hc hd hb hab
      obtain ⟨P, S⟩ := heapSort_holds hS d a b hab (by omega)
      simp only [n65, r65, g0, g1, g2, g3, g4, g10, g11, hw1, c1', c2', hi, SB, Nat.reduceLT, callee, aOp, ne_eq, Nat.reduceEqDiff, aBin, aUn, if_true, if_false, reduceCtorEq, frame0, place, notTuple, Nat.reduceAdd, Nat.reduceLeDiff, resVal, dite_true, dite_false, Int.reduceEq, Int.reduceLT, Int.reduceLE]
      exact ⟨_, [], by rw [P.1]; exact hd, P, S, rfl, by simp⟩
    have c2' : ¬ (lm : Int) = 0 := by omega
    cases wb with
    | true =>
      simp only [n65, r65, g0, g1, g2, g3, g4, g10, g11, hw1, c1', c2', SB, Nat.reduceLT, callee, aOp, ne_eq, Nat.reduceEqDiff, aBin, aUn, if_true, if_false, reduceCtorEq, frame0, place, notTuple, Nat.reduceAdd, Nat.reduceLeDiff, resVal, dite_true, dite_false, Int.reduceEq, Int.reduceLT, Int.reduceLE]
      exact h1 d X _ lm hd hBl (by omega) hlm (by simp only [g0, upd_same, upd_ne, ne_eq, Nat.reduceEqDiff, not_false_eq_true, frame0, List.getD_cons_zero, List.getD_cons_succ]) (by simp only [g1, upd_same, upd_ne, ne_eq, Nat.reduceEqDiff, not_false_eq_true, frame0, List.getD_cons_zero, List.getD_cons_succ]) (by simp only [g2, upd_same, upd_ne, ne_eq, Nat.reduceEqDiff, not_false_eq_true, frame0, List.getD_cons_zero, List.getD_cons_succ]) (by simp only [g3, upd_same, upd_ne, ne_eq, Nat.reduceEqDiff, not_false_eq_true, frame0, List.getD_cons_zero, List.getD_cons_succ]) (by simp only [g4, upd_same, upd_ne, ne_eq, Nat.reduceEqDiff, not_false_eq_true, frame0, List.getD_cons_zero, List.getD_cons_succ]) (by simp only [g10, upd_same, upd_ne, ne_eq, Nat.reduceEqDiff, not_false_eq_true, frame0, List.getD_cons_zero, List.getD_cons_succ]) (by simp only [g11, upd_same, upd_ne, ne_eq, Nat.reduceEqDiff, not_false_eq_true, frame0, List.getD_cons_zero, List.getD_cons_succ]) (by simp only [upd_same, upd_ne, ne_eq, Nat.reduceEqDiff, not_false_eq_true, frame0, List.getD_cons_zero, List.getD_cons_succ])
    | false =>
      obtain ⟨d1, s, hd1, P1, hbr⟩ := brk_ok (X := X) (cap := cap) (lim := lim) hp hB hl hn2 hc hd hb (show a + 12 < b by omega) hn3
      have hw2 : IntKind.i64.wrap ((lm : Int) - 1) = ((lm - 1 : Nat) : Int) := wrap_int (by omega) (by omega)
      simp only [n65, r65, g0, g1, g2, g3, g4, g10, g11, hw1, c1', c2', hbr, hw2, SB, Nat.reduceLT, callee, aOp, ne_eq, Nat.reduceEqDiff, aBin, aUn, if_true, if_false, reduceCtorEq, frame0, place, notTuple, Nat.reduceAdd, Nat.reduceLeDiff, resVal, dite_true, dite_false, Int.reduceEq, Int.reduceLT, Int.reduceLE]
      refine Ret.mono (h1 d1 (X ++ [.cells false [.int .u64 s]]) _ (lm - 1) hd1 (hBl.perm (by omega) P1) (by omega) (by omega) (by simp only [g0, upd_same, upd_ne, ne_eq, Nat.reduceEqDiff, not_false_eq_true, frame0, List.getD_cons_zero, List.getD_cons_succ]) (by simp only [g1, upd_same, upd_ne, ne_eq, Nat.reduceEqDiff, not_false_eq_true, frame0, List.getD_cons_zero, List.getD_cons_succ]) (by simp only [g2, upd_same, upd_ne, ne_eq, Nat.reduceEqDiff, not_false_eq_true, frame0, List.getD_cons_zero, List.getD_cons_succ]) (by simp only [upd_same, upd_ne, ne_eq, Nat.reduceEqDiff, not_false_eq_true, frame0, List.getD_cons_zero, List.getD_cons_succ]) (by simp only [g4, upd_same, upd_ne, ne_eq, Nat.reduceEqDiff, not_false_eq_true, frame0, List.getD_cons_zero, List.getD_cons_succ]) (by simp only [g10, upd_same, upd_ne, ne_eq, Nat.reduceEqDiff, not_false_eq_true, frame0, List.getD_cons_zero, List.getD_cons_succ]) (by simp only [g11, upd_same, upd_ne, ne_eq, Nat.reduceEqDiff, not_false_eq_true, frame0, List.getD_cons_zero, List.getD_cons_succ]) (by simp only [upd_same, upd_ne, ne_eq, Nat.reduceEqDiff, not_false_eq_true, frame0, List.getD_cons_zero, List.getD_cons_succ])) fun v' H' hq => ?_
      exact Done.perm hq P1
end Go.Proofs.Ytlmoijifgbkapaa.Fn
namespace Go.Proofs.Ytlmoijifgbkapaa.Fn
open Go.AM Go.AM.Sym Go.Sort
set_option maxRecDepth 100000
set_option linter.unusedVariables false
set_option linter.unusedSimpArgs false
set_option maxHeartbeats 4000000

theorem len0_ok {mp : Bool} {lim : Nat} {H : Heap} {Q : Value → Heap → Prop} : CallR E mp lim 66 [.int .u64 0] H Q = Q (.int .i64 0) H := by
  have key : ∀ (mp : Bool) (lim : Nat) (H : Heap) (Q : Value → Heap → Prop), CallR E mp lim 87 [.int .u64 0] H Q = Q (.int .i64 0) H := by
    intro mp lim H Q
    refine pc (by decide) e87 rfl rfl ?_
    rw [b87, c87]
    have w2 : IntKind.u8.wrap 0 = 0 := by decide
    have w3 : IntKind.i64.wrap 0 = 0 := by decide
    simp only [n87, r87, w2, w3, Int.toNat_zero, List.getElem?_cons_zero, Option.map_some, UInt8.toNat_zero, UInt8.toNat_ofNat, Nat.reduceMod, Nat.reducePow, Int.cast_ofNat_Int, Int.add_zero, SB, Nat.reduceLT, callee, aOp, ne_eq, Nat.reduceEqDiff, aBin, aUn, if_true, if_false, reduceCtorEq, frame0, place, notTuple, Nat.reduceAdd, Nat.reduceLeDiff, resVal, dite_true, dite_false, Int.reduceEq, Int.reduceLT, Int.reduceLE]
  refine pc (by decide) e66 rfl rfl ?_
  rw [b66, c66]
  simp only [n66, r66, key, SB, Nat.reduceLT, callee, aOp, ne_eq, Nat.reduceEqDiff, aBin, aUn, if_true, if_false, reduceCtorEq, frame0, place, notTuple, Nat.reduceAdd, Nat.reduceLeDiff, resVal, dite_true, dite_false, Int.reduceEq, Int.reduceLT, Int.reduceLE]

theorem pdq_call {G X : Heap} {B lim cap n : Nat} {p : Option Addr} {c : Clm → Clm → Int} {cl : FuncId} {cs : List Value} (hp : p = some ⟨B, 0, none⟩) (hB : B < G.length) (hl : lim ≤ B) (hn2 : n < 2 ^ 61) (hc : ∀ (mp : Bool) (lim : Nat) (x y : Clm) (H : Heap) (Q : Value → Heap → Prop), CallR E mp lim cl (.agg (encC x).toArray :: .agg (encC y).toArray :: cs) H Q = Q (.int .i64 (c x y)) H) (hS : SWO (ltC c)) (hn3 : n < 65536) {d : Array Clm} {lm : Nat} (hd : d.size = n) (hlm : lm < 2 ^ 60) :
    ∃ d' Y, d'.size = n ∧ PermIn 0 n d d' ∧ SortedIn (ltC c) 0 n d' ∧ ∀ Q, CallR E false lim 65 [.slice p n cap, .int .i64 0, .int .i64 (n : Int), .int .i64 (lm : Int), .func (.func cl) #[] cs.toArray] (DH encC G B d ++ X) Q = Q (.tuple #[]) (DH encC G B d' ++ (X ++ Y)) := by
  have hBl : Below (ltC c) 0 n d := by simp [Below]
  have key : CallR E false lim 65 [.slice p n cap, .int .i64 0, .int .i64 (n : Int), .int .i64 (lm : Int), .func (.func cl) #[] cs.toArray] (DH encC G B d ++ X) (Done G B n c 0 n d X) := by
    rw [CallR_run (E := E) (g := 65) (af := a65) (by simp [E, orc]) e65 rfl rfl]
    rw [b65, c65]
    simp only [n65, r65, SB, Nat.reduceLT, callee, aOp, ne_eq, Nat.reduceEqDiff, aBin, aUn, if_true, if_false, reduceCtorEq, frame0, place, notTuple, Nat.reduceAdd, Nat.reduceLeDiff, resVal, dite_true, dite_false, Int.reduceEq, Int.reduceLT, Int.reduceLE]
    rw [Ret_loop, ← Ret_inLoop]
    exact pdq_loop (X := X) (cap := cap) hp hB hl hn2 hc hS hn3 (n + 1) 0 n lm true true d X _ (by omega) (by omega) (by omega) hd hBl hlm (by simp only [upd_same, upd_ne, ne_eq, Nat.reduceEqDiff, not_false_eq_true, frame0, List.getD_cons_zero, List.getD_cons_succ]) (by simp only [Int.cast_ofNat_Int, upd_same, upd_ne, ne_eq, Nat.reduceEqDiff, not_false_eq_true, frame0, List.getD_cons_zero, List.getD_cons_succ]) (by simp only [upd_same, upd_ne, ne_eq, Nat.reduceEqDiff, not_false_eq_true, frame0, List.getD_cons_zero, List.getD_cons_succ]) (by simp only [upd_same, upd_ne, ne_eq, Nat.reduceEqDiff, not_false_eq_true, frame0, List.getD_cons_zero, List.getD_cons_succ]) (by simp only [upd_same, upd_ne, ne_eq, Nat.reduceEqDiff, not_false_eq_true, frame0, List.getD_cons_zero, List.getD_cons_succ]) (by simp only [upd_same, upd_ne, ne_eq, Nat.reduceEqDiff, not_false_eq_true, frame0, List.getD_cons_zero, List.getD_cons_succ]) (by simp only [upd_same, upd_ne, ne_eq, Nat.reduceEqDiff, not_false_eq_true, frame0, List.getD_cons_zero, List.getD_cons_succ])
  obtain ⟨k, v, H', hx, d', Y, h1, h2, h3, rfl, rfl⟩ := key
  exact ⟨d', Y, h1, h2, h3, fun Q => CallR.det hx⟩

theorem sort_ok {G X : Heap} {B lim cap n : Nat} {p : Option Addr} {c : Clm → Clm → Int} {cl : FuncId} {cs : List Value} (hp : p = some ⟨B, 0, none⟩) (hB : B < G.length) (hl : lim ≤ B) (hn2 : n < 2 ^ 61) (hc : ∀ (mp : Bool) (lim : Nat) (x y : Clm) (H : Heap) (Q : Value → Heap → Prop), CallR E mp lim cl (.agg (encC x).toArray :: .agg (encC y).toArray :: cs) H Q = Q (.int .i64 (c x y)) H) (hS : SWO (ltC c)) (hn3 : n < 65536) {d : Array Clm} (hd : d.size = n) :
    ∃ d' Y, d'.size = n ∧ PermIn 0 n d d' ∧ SortedIn (ltC c) 0 n d' ∧ ∀ Q, CallR E false lim 50 [.slice p n cap, .func (.func cl) #[] cs.toArray] (DH encC G B d ++ X) Q = Q (.tuple #[]) (DH encC G B d' ++ (X ++ Y)) := by
  have key : CallR E false lim 50 [.slice p n cap, .func (.func cl) #[] cs.toArray] (DH encC G B d ++ X) (Done G B n c 0 n d X) := by
    rw [CallR_run (E := E) (g := 50) (af := a50) (by simp [E, orc]) e50 rfl rfl]
    rw [b50, c50]
    have w1 : IntKind.u64.wrap (n : Int) = (n : Int) := by rw [wrap64]; omega
    by_cases h0 : n = 0
    · subst h0
      obtain ⟨d', Y, k1, k2, k3, k4⟩ := pdq_call (X := X) (lm := 0) (cap := cap) hp hB hl hn2 hc hS hn3 hd (by omega)
      have k4' : ∀ Q, CallR E false lim 65 [.slice p 0 cap, .int .i64 0, .int .i64 0, .int .i64 0, .func (.func cl) #[] cs.toArray] (DH encC G B d ++ X) Q = Q (.tuple #[]) (DH encC G B d' ++ (X ++ Y)) := k4
      have w0 : IntKind.u64.wrap 0 = 0 := by decide
      simp only [n50, r50, w0, len0_ok, k4', SB, Nat.reduceLT, callee, aOp, ne_eq, Nat.reduceEqDiff, aBin, aUn, if_true, if_false, reduceCtorEq, frame0, place, notTuple, Nat.reduceAdd, Nat.reduceLeDiff, resVal, dite_true, dite_false, Int.reduceEq, Int.reduceLT, Int.reduceLE]
      exact ⟨_, _, k1, k2, k3, rfl, rfl⟩
    · obtain ⟨L, l1, l2, l3, l4⟩ := len_ok (x := n) hn3 (by omega)
      obtain ⟨d', Y, k1, k2, k3, k4⟩ := pdq_call (X := X) (lm := L) (cap := cap) hp hB hl hn2 hc hS hn3 hd (by omega)
      simp only [n50, r50, w1, l4, k4, SB, Nat.reduceLT, callee, aOp, ne_eq, Nat.reduceEqDiff, aBin, aUn, if_true, if_false, reduceCtorEq, frame0, place, notTuple, Nat.reduceAdd, Nat.reduceLeDiff, resVal, dite_true, dite_false, Int.reduceEq, Int.reduceLT, Int.reduceLE]
      exact ⟨_, _, k1, k2, k3, rfl, rfl⟩
  obtain ⟨k, v, H', hx, d', Y, h1, h2, h3, rfl, rfl⟩ := key
  exact ⟨d', Y, h1, h2, h3, fun Q => CallR.det hx⟩

/-- Nothing to sort. -/
theorem sort_nil {lim cap : Nat} {p : Option Addr} {cl : FuncId} {cs : List Value} {H : Heap} {Q : Value → Heap → Prop} : CallR E false lim 50 [.slice p 0 cap, .func (.func cl) #[] cs.toArray] H Q = Q (.tuple #[]) H := by
  have hi : ∀ Q, CallR E false lim 78 [.slice p 0 cap, .int .i64 0, .int .i64 0, .func (.func cl) #[] cs.toArray] H Q = Q (.tuple #[]) H := by
    intro Q
    refine runs (by decide) e78 rfl ?_
    rw [b78, c78]
    have w1 : IntKind.i64.wrap 1 = 1 := by decide
    simp only [n78, r78, w1, Int.zero_add, Int.reduceLT, decide_false, SB, Nat.reduceLT, callee, aOp, ne_eq, Nat.reduceEqDiff, aBin, aUn, if_true, if_false, reduceCtorEq, frame0, place, notTuple, Nat.reduceAdd, Nat.reduceLeDiff, resVal, dite_true, dite_false, Int.reduceEq, Int.reduceLT, Int.reduceLE]
    rw [Ret_loop, Ret_code l78_2.eq_1]
    simp only [n78, r78, SB, Nat.reduceLT, callee, aOp, ne_eq, Nat.reduceEqDiff, aBin, aUn, if_true, if_false, reduceCtorEq, frame0, place, notTuple, Nat.reduceAdd, Nat.reduceLeDiff, resVal, dite_true, dite_false, Int.reduceEq, Int.reduceLT, Int.reduceLE]
  have hq : ∀ Q, CallR E false lim 65 [.slice p 0 cap, .int .i64 0, .int .i64 0, .int .i64 0, .func (.func cl) #[] cs.toArray] H Q = Q (.tuple #[]) H := by
    intro Q
    refine runs (by decide) e65 rfl ?_
    rw [b65, c65]
    simp only [n65, r65, SB, Nat.reduceLT, callee, aOp, ne_eq, Nat.reduceEqDiff, aBin, aUn, if_true, if_false, reduceCtorEq, frame0, place, notTuple, Nat.reduceAdd, Nat.reduceLeDiff, resVal, dite_true, dite_false, Int.reduceEq, Int.reduceLT, Int.reduceLE]
    rw [Ret_loop, Ret_code body_eq]
    simp only [p1, p2, hdc, tlc, unb, l65_1]
    have w1 : IntKind.i64.wrap 0 = 0 := by decide
    simp only [n65, r65, w1, hi, Int.sub_self, SB, Nat.reduceLT, callee, aOp, ne_eq, Nat.reduceEqDiff, aBin, aUn, if_true, if_false, reduceCtorEq, frame0, place, notTuple, Nat.reduceAdd, Nat.reduceLeDiff, resVal, dite_true, dite_false, Int.reduceEq, Int.reduceLT, Int.reduceLE]
  refine runs (by decide) e50 rfl ?_
  rw [b50, c50]
  have w0 : IntKind.u64.wrap 0 = 0 := by decide
  simp only [n50, r50, w0, len0_ok, hq, SB, Nat.reduceLT, callee, aOp, ne_eq, Nat.reduceEqDiff, aBin, aUn, if_true, if_false, reduceCtorEq, frame0, place, notTuple, Nat.reduceAdd, Nat.reduceLeDiff, resVal, dite_true, dite_false, Int.reduceEq, Int.reduceLT, Int.reduceLE]
end Go.Proofs.Ytlmoijifgbkapaa.Fn
namespace Go.Proofs.Ytlmoijifgbkapaa.Fn
open Go.AM Go.AM.Sym Go.Sort
set_option maxRecDepth 100000
set_option linter.unusedVariables false
set_option linter.unusedSimpArgs false
set_option maxHeartbeats 4000000

def cmpC (a b : Clm) : Int := orL [cmpI a.tm b.tm, cmpI a.id b.id]
theorem cmpC_ok (mp : Bool) (lim : Nat) (a b : Clm) (H : Heap) (Q : Value → Heap → Prop) : CallR E mp lim 51 [.agg (encC a).toArray, .agg (encC b).toArray] H Q = Q (.int .i64 (cmpC a b)) H := by
  refine pc (by decide) e51 rfl rfl ?_
  rw [b51, c51]
  simp only [encC]
  simp only [n51, r51, cmp_ok, or_lit, isCells_cells, cellsOf_cells, intsOf_cons, intsOf_nil, okInts_cons, okInts_nil, Nat.reducePow, cmpC, SB, Nat.reduceLT, callee, aOp, ne_eq, Nat.reduceEqDiff, aBin, aUn, if_true, if_false, reduceCtorEq, frame0, place, notTuple, Nat.reduceAdd, Nat.reduceLeDiff, resVal, dite_true, dite_false, Int.reduceEq, Int.reduceLT, Int.reduceLE]
theorem cmpC_lt (a b : Clm) : ltC cmpC a b = decide (a.tm < b.tm ∨ a.tm = b.tm ∧ a.id < b.id) := by
  simp only [ltC, cmpC, orL, cmpI]
  rcases Int.lt_trichotomy a.tm b.tm with h | h | h
  · simp [h]
  · rcases Int.lt_trichotomy a.id b.id with k | k | k
    · simp [h, k]
    · simp [h, k]
    · simp [h, k, show ¬ a.id < b.id by omega]
  · simp [h, show ¬ a.tm < b.tm by omega, show ¬ a.tm = b.tm by omega]
theorem cmpC_swo : SWO (ltC cmpC) := by
  refine ⟨fun x => ?_, fun x y z h1 h2 => ?_, fun x y z h1 h2 => ?_⟩
  · rw [cmpC_lt]; simp
  · rw [cmpC_lt] at *; simp only [decide_eq_true_eq] at *; omega
  · rw [cmpC_lt] at *; simp only [decide_eq_false_iff_not] at *; omega

theorem clone_ok {lim cap : Nat} {p : Option Addr} {l : List Clm} {H : Heap} {Q : Value → Heap → Prop} (hs : Sl H encC 6 p l) (hp : l ≠ [] → p ≠ none) (hn : l ≠ []) (h3 : l.length ≤ 500) :
    CallR E false lim 49 [.slice p l.length cap] H Q = Q (.slice (some ⟨H.length + 1, 0, none⟩) l.length (loose 6)) (H ++ [.cells false [], .cells false (l.flatMap encC)]) := by
  have h0 : l.length ≠ 0 := by intro h; exact hn (List.length_eq_zero_iff.1 h)
  refine runs (by decide) e49 rfl ?_
  rw [b49, c49]
  refine Ret_pad ?_
  obtain ⟨a, rfl⟩ : ∃ a, p = some a := by
    cases p with
    | none => exact absurd rfl (hp hn)
    | some a => exact ⟨a, rfl⟩
  have happ := fun X c => append_fresh (lim := lim) (bytes := 48) (c := c) (b := H.length) (H := H ++ (.cells false [] :: X)) (by rw [hget_new0]; rfl) (hs.app _) (hp hn) h0 (by decide : (6 : Nat) ≠ 0) (by unfold maxBytes; omega) (by omega)
  simp only [n49, r49, happ, aEq, SB, Nat.reduceLT, callee, aOp, ne_eq, Nat.reduceEqDiff, aBin, aUn, if_true, if_false, reduceCtorEq, frame0, place, notTuple, Nat.reduceAdd, Nat.reduceLeDiff, resVal, dite_true, dite_false, Int.reduceEq, Int.reduceLT, Int.reduceLE]
theorem clone_nil {lim cap : Nat} {p : Option Addr} {H : Heap} :
    ∃ p' k' Y, ∀ Q, CallR E false lim 49 [.slice p 0 cap] H Q = Q (.slice p' 0 k') (H ++ Y) := by
  cases p with
  | none =>
    refine ⟨none, 0, [], fun Q => ?_⟩
    refine runs (by decide) e49 rfl ?_
    rw [b49, c49]
    refine Ret_pad ?_
    simp only [n49, r49, aEq, Option.isNone_none, SB, Nat.reduceLT, callee, aOp, ne_eq, Nat.reduceEqDiff, aBin, aUn, if_true, if_false, reduceCtorEq, frame0, place, notTuple, Nat.reduceAdd, Nat.reduceLeDiff, resVal, dite_true, dite_false, Int.reduceEq, Int.reduceLT, Int.reduceLE]
  | some a =>
    refine ⟨some ⟨H.length, 0, none⟩, 0, [.cells false []], fun Q => ?_⟩
    refine runs (by decide) e49 rfl ?_
    rw [b49, c49]
    refine Ret_pad ?_
    have happ : ∀ X c, aAppend lim none 6 48 false (.slice (some ⟨H.length, 0, none⟩) 0 0) (.slice (some a) 0 c) (H ++ (.cells false [] :: X)) = some (.slice (some ⟨H.length, 0, none⟩) 0 0, H ++ (.cells false [] :: X)) := by
      intro X c
      have h1 : AM.loadCells (H ++ (.cells false [] :: X)) ⟨H.length, 0, none⟩ (0 * 6) = some [] := by simp [loadCells_lit, hget_new0]
      simp [aAppend, firstCells, lenOf]
    simp only [n49, r49, happ, aEq, SB, Nat.reduceLT, callee, aOp, ne_eq, Nat.reduceEqDiff, aBin, aUn, if_true, if_false, reduceCtorEq, frame0, place, notTuple, Nat.reduceAdd, Nat.reduceLeDiff, resVal, dite_true, dite_false, Int.reduceEq, Int.reduceLT, Int.reduceLE]

theorem perm_list {n : Nat} {d d' : Array Clm} (hd : d.size = n) (h : PermIn 0 n d d') : d'.toList.Perm d.toList := by
  obtain ⟨h1, h2, h3⟩ := h
  subst hd
  rw [Array.extract_size] at h3
  rw [← h1, Array.extract_size] at h3
  exact h3
/-- The order that the statement names. -/
def Lt (a b : Clm) : Prop := a.tm < b.tm ∨ a.tm = b.tm ∧ a.id < b.id
theorem sorted_list {n : Nat} {d : Array Clm} (hd : d.size = n) (h : SortedIn (ltC cmpC) 0 n d) (hid : d.toList.Pairwise (fun a b => a.id ≠ b.id)) : d.toList.Pairwise Lt := by
  rw [List.pairwise_iff_getElem] at *
  intro i j hi hj hij
  have h1 := h i j (Nat.zero_le _) hij (by simpa [hd] using hj)
  have h2 := hid i j hi hj hij
  rw [cmpC_lt] at h1
  have e1 : d[i]! = d.toList[i] := by rw [getElem!_pos d i (by simpa using hi)]; simp
  have e2 : d[j]! = d.toList[j] := by rw [getElem!_pos d j (by simpa using hj)]; simp
  rw [e1, e2] at h1
  simp only [decide_eq_false_iff_not] at h1
  unfold Lt
  omega

theorem setAll_mid : ∀ (vs a b c : List Value), vs.length = b.length → setAll (a ++ b ++ c) a.length vs = a ++ vs ++ c := by
  intro vs
  induction vs with
  | nil => intro a b c h; simp at h; have : b = [] := List.length_eq_zero_iff.1 h.symm; subst this; rfl
  | cons v vs ih =>
    intro a b c h
    match b, h with
    | x :: b, h =>
      rw [setAll_cons]
      have e1 : (a ++ x :: b ++ c).set a.length v = (a ++ [v]) ++ b ++ c := by simp
      rw [e1]
      have := ih (a ++ [v]) b c (by simpa using h)
      rw [List.length_append] at this
      simp only [List.length_cons, List.length_nil, Nat.zero_add] at this
      rw [this]; simp
/-- An append for which there is room. -/
theorem append_room {lim R b e bytes n i k : Nat} {H : Heap} {ro : Bool} {old rest new : List Value} (hb : hget H b = .cells ro new) (hR : hget H R = .cells false (old ++ rest)) (hl : lim ≤ R) (hi : i < n) (ho : old.length = i * e) (hr : rest.length = (n - i) * e) (hnew : new.length = e) (he : e ≠ 0) (hk : k < 2 ^ 62) (hn : n < 2 ^ 40) (hm : n * bytes ≤ maxBytes) :
    aAppend lim none e bytes false (.slice (some ⟨R, 0, none⟩) i n) (.slice (some ⟨b, 0, none⟩) 1 k) H = some (.slice (some ⟨R, 0, none⟩) (i + 1) n, H.set R (.cells false ((old ++ new) ++ rest.drop e))) := by
  have hre : e ≤ rest.length := by
    rw [hr]; exact Nat.le_mul_of_pos_left e (by omega)
  have hx : AM.loadCells H ⟨b, 0, none⟩ (1 * e) = some new := by
    rw [loadCells_lit, hb]
    simp only [Nat.one_mul, Nat.zero_add, List.drop_zero]
    rw [if_pos (by omega), List.take_of_length_le (by omega)]
  have hy : AM.loadCells H ⟨R, 0, none⟩ (i * e) = some old := by
    rw [loadCells_lit, hR]
    simp only [Nat.zero_add, List.drop_zero]
    rw [if_pos (by rw [List.length_append]; omega), ← ho, List.take_left]
  have hmul : (i + 1) * bytes ≤ n * bytes := Nat.mul_le_mul_right _ hi
  have hie : (n - i) * e + i * e = n * e := by rw [← Nat.add_mul, Nat.sub_add_cancel (by omega)]
  have hst : AM.storeAt lim H (Addr.add ⟨R, 0, none⟩ (i * e)) new = some (H.set R (.cells false ((old ++ new) ++ rest.drop e))) := by
    simp only [addr_add, storeAt_lit, hR, Nat.zero_add]
    rw [if_pos ⟨hl, by rw [List.length_append]; omega⟩]
    have := setAll_mid new old (rest.take e) (rest.drop e) (by rw [hnew, List.length_take]; omega)
    rw [List.append_assoc, List.take_append_drop, ho] at this
    rw [this]
  have h00 : ¬ ((1 : Nat) = 0) := by decide
  simp only [aAppend, firstCells, lenOf, hx, hy, hst, h00, if_false, Bool.false_eq_true]
  rw [if_neg (by omega), if_neg (by unfold loose; omega), if_pos (by omega), if_pos (by omega)]
end Go.Proofs.Ytlmoijifgbkapaa.Fn
namespace Go.Proofs.Ytlmoijifgbkapaa.Fn
open Go.AM Go.AM.Sym Go.Sort
set_option maxRecDepth 100000
set_option linter.unusedVariables false
set_option linter.unusedSimpArgs false
set_option maxHeartbeats 4000000

def encO (x : Int × Int × Int) : List Value := [.int .i64 x.1, .int .i64 x.2.1, .int .u8 x.2.2]
theorem encO_len (x : Int × Int × Int) : (encO x).length = 3 := rfl
def outO (l : List Std) (t : List Trm) (s : List Snt) (paid : List Int) (x : Clm) : Int × Int × Int :=
  if (decideS l t s x).2 ≠ 1 ∧ x.item ∈ paid then (x.id, 0, 7) else (x.id, (decideS l t s x).1, (decideS l t s x).2)
def paidN (l : List Std) (t : List Trm) (s : List Snt) (paid : List Int) (x : Clm) : List Int := if (outO l t s paid x).2.2 = 6 then paid ++ [x.item] else paid
def paidA (l : List Std) (t : List Trm) (s : List Snt) (d : List Clm) : List Int := d.foldl (paidN l t s) []
def goO (l : List Std) (t : List Trm) (s : List Snt) : List Int → List Clm → List (Int × Int × Int)
  | _, [] => []
  | paid, x :: r => outO l t s paid x :: goO l t s (paidN l t s paid x) r
theorem goO_snoc {l : List Std} {t : List Trm} {s : List Snt} {x : Clm} : ∀ (a : List Clm) (p : List Int), goO l t s p (a ++ [x]) = goO l t s p a ++ [outO l t s (a.foldl (paidN l t s) p) x]
  | [], p => rfl
  | y :: a, p => by rw [List.cons_append, goO, goO_snoc a]; rfl
theorem goO_len {l : List Std} {t : List Trm} {s : List Snt} : ∀ (a : List Clm) (p : List Int), (goO l t s p a).length = a.length
  | [], p => rfl
  | y :: a, p => by rw [goO, List.length_cons, goO_len a, List.length_cons]
theorem rightC_mem {c : List Clm} (h : rightC c = true) {x : Clm} (hx : x ∈ c) : okC x = true ∧ (x.kind = 1 ∨ x.kind = 2) := by
  unfold rightC at h
  simp only [Bool.and_eq_true] at h
  obtain ⟨i, hi, rfl, h2⟩ := allFrom_mem h.2 hx
  simp only [okCAt, Bool.and_eq_true, decide_eq_true_eq] at h2
  exact ⟨h2.2, h2.1.1⟩
theorem rightC_ids {c : List Clm} (h : rightC c = true) : c.Pairwise (fun a b => a.id ≠ b.id) := by
  unfold rightC at h
  simp only [Bool.and_eq_true] at h
  rw [List.pairwise_iff_getElem]
  intro i j hi hj hij he
  have h2 := allFrom_iff.1 h.2 j (Nat.zero_le _) hj
  simp only [okCAt, Bool.and_eq_true, gt_lt hj, Bool.not_eq_true', List.contains_eq_mem, decide_eq_false_iff_not] at h2
  refine h2.1.2 ?_
  rw [← he]
  exact List.mem_map.2 ⟨c[i], List.mem_iff_getElem.2 ⟨i, by rw [List.length_take]; omega, by simp⟩, rfl⟩
theorem DH_self {α : Type} {enc : α → List Value} {G : Heap} {B : Nat} {d : Array α} (h : hget G B = .cells false (d.toList.flatMap enc)) : DH enc G B d = G := by
  have hB := hget_alive h
  unfold DH
  rw [← h]
  unfold hget
  rw [List.getD_eq_getElem?_getD, List.getElem?_eq_getElem hB]
  exact List.set_getElem_self hB
theorem Ext_set {H G : Heap} (h : Ext H G) {i : Nat} {b : Blk} (hi : H.length ≤ i) : Ext H (G.set i b) := by
  obtain ⟨X, rfl⟩ := h
  exact ⟨X.set (i - H.length) b, by rw [List.set_append_right _ _ hi]⟩

/-- The copy, in order. -/
theorem order_ok {lim : Nat} {c : List Clm} {H : Heap} (hlim : lim ≤ H.length) (hr : rightC c = true) (hn : c.length ≤ 500) :
    ∃ (d : List Clm) (G : Heap), d.Perm c ∧ d.Pairwise Lt ∧ Ext H G ∧ hget G (H.length + 1) = .cells false (d.flatMap encC) ∧ H.length + 1 < G.length ∧
      ∀ Q, CallR E false lim 50 [.slice (some ⟨H.length + 1, 0, none⟩) c.length (loose 6), .func (.func 51) #[] #[]] (H ++ [.cells false [], .cells false (c.flatMap encC)]) Q = Q (.tuple #[]) (G ++ []) := by
  have hG : hget (H ++ [.cells false [], .cells false (c.flatMap encC)]) (H.length + 1) = .cells false (c.toArray.toList.flatMap encC) := by rw [hget_new]; rfl
  have hself := DH_self hG
  obtain ⟨d, Y, h1, h2, h3, h4⟩ := sort_ok (X := []) (G := H ++ [.cells false [], .cells false (c.flatMap encC)]) (B := H.length + 1) (lim := lim) (cap := loose 6) (n := c.length) (p := some ⟨H.length + 1, 0, none⟩) (c := cmpC) (cl := 51) (cs := []) rfl (by simp) (by omega) (by omega)
    (fun mp lim x y H Q => cmpC_ok mp lim x y H Q) cmpC_swo (by omega) (d := c.toArray) (by simp)
  have hp := perm_list (n := c.length) (by simp) h2
  have hp' : d.toList.Perm c := hp
  refine ⟨d.toList, DH encC (H ++ [.cells false [], .cells false (c.flatMap encC)]) (H.length + 1) d ++ Y, hp', ?_, ?_, ?_, ?_, ?_⟩
  · refine sorted_list h1 h3 ?_
    exact (hp'.pairwise_iff (fun h e => h e.symm)).2 (rightC_ids hr)
  · exact (Ext_set Ext.refl.app (by omega)).app
  · exact DH_get (by simp)
  · rw [List.length_append, DH_len]; simp; omega
  · intro Q
    have := h4 Q
    rw [hself, List.append_nil, List.nil_append] at this
    rw [List.append_nil]
    exact this
theorem Settle_bad {lim : Nat} {pl pt ps pc : Option Addr} {l : List Std} {t : List Trm} {s : List Snt} {c : List Clm} {k1 k2 k3 k4 : Nat} {H : Heap} (hl : Sl H encS 4 pl l) (ht : Sl H encT 7 pt t) (hs : Sl H encN 6 ps s) (hc : Sl H encC 6 pc c) (nl : l.length < 2 ^ 62) (nt : t.length < 2 ^ 62) (ns : s.length < 2 ^ 62) (nc : c.length < 2 ^ 62) (h0 : ¬ checkS l t s c = 0) {Q : Value → Heap → Prop} : CallR E false lim 25 [.slice pl l.length k1, .slice pt t.length k2, .slice ps s.length k3, .slice pc c.length k4] H Q = Q (.tuple #[.slice none 0 0, .int .i64 (checkS l t s c)]) H := by
  refine runs (by decide) e25 rfl ?_
  rw [b25, c25]
  refine Ret_pad ?_
  have hck := fun mp lim X Q => check_ok (mp := mp) (lim := lim) (k1 := k1) (k2 := k2) (k3 := k3) (k4 := k4) (Q := Q) (hl.app X) (ht.app X) (hs.app X) (hc.app X) nl nt ns nc
  simp only [n25, r25, hck, h0, SB, Nat.reduceLT, callee, aOp, ne_eq, Nat.reduceEqDiff, aBin, aUn, if_true, if_false, reduceCtorEq, frame0, place, notTuple, Nat.reduceAdd, Nat.reduceLeDiff, resVal, dite_true, dite_false, Int.reduceEq, Int.reduceLT, Int.reduceLE]
  exact List.append_nil _
theorem Settle_run {lim : Nat} {pl pt ps pc : Option Addr} {l : List Std} {t : List Trm} {s : List Snt} {c : List Clm} {k1 k2 k3 k4 : Nat} {H : Heap} (hl : Sl H encS 4 pl l) (ht : Sl H encT 7 pt t) (hs : Sl H encN 6 ps s) (hc : Sl H encC 6 pc c) (nl : l.length < 2 ^ 62) (nt : t.length < 2 ^ 62) (ns : s.length < 2 ^ 62) (nc : c.length < 2 ^ 62) (hlim : lim ≤ H.length) (h0 : checkS l t s c = 0) (hpn : c ≠ [] → pc ≠ none) (hc0 : c ≠ []) :
    ∃ (d : List Clm) (p : Option Addr) (Y : Heap), d.Perm c ∧ d.Pairwise Lt ∧ Sl (H ++ Y) encO 3 p (goO l t s [] d) ∧ (p = none → d = []) ∧ ∀ Q, CallR E false lim 25 [.slice pl l.length k1, .slice pt t.length k2, .slice ps s.length k3, .slice pc c.length k4] H Q = Q (.tuple #[.slice p c.length c.length, .int .i64 0]) (H ++ Y) := by
  obtain ⟨r1, r2, r3, r4⟩ := checkS_ok h0
  have hn : c.length ≤ 500 := by
    unfold rightC at r4
    simp only [Bool.and_eq_true, decide_eq_true_eq] at r4
    exact r4.1
  obtain ⟨d, G1, hp, hlt, hE1, hB1, hBl, hsort⟩ := order_ok hlim r4 hn
  have hdl : d.length = c.length := hp.length_eq
  have key : CallR E false lim 25 [.slice pl l.length k1, .slice pt t.length k2, .slice ps s.length k3, .slice pc c.length k4] H (fun v H' => v = .tuple #[.slice (some ⟨G1.length + 1, 0, none⟩) c.length c.length, .int .i64 0] ∧ Ext H H' ∧ Sl H' encO 3 (some ⟨G1.length + 1, 0, none⟩) (goO l t s [] d)) := by
    rw [CallR_run (E := E) (g := 25) (af := a25) (by simp [E, orc]) e25 rfl rfl]
    rw [b25, c25]
    refine Ret_pad ?_
    have hck := fun mp lim X Q => check_ok (mp := mp) (lim := lim) (k1 := k1) (k2 := k2) (k3 := k3) (k4 := k4) (Q := Q) (hl.app X) (ht.app X) (hs.app X) (hc.app X) nl nt ns nc
    have hcl : ∀ Q, CallR E false lim 49 [.slice pc c.length k4] (H ++ []) Q = Q (.slice (some ⟨H.length + 1, 0, none⟩) c.length (loose 6)) (H ++ [.cells false [], .cells false (c.flatMap encC)]) := fun Q => by rw [List.append_nil]; exact clone_ok hc hpn hc0 hn
    have q1 : 0 ≤ (c.length : Int) := by omega
    have q2 : (c.length : Int) * 24 ≤ 2 ^ 45 := by omega
    have q3 : (c.length : Int) < 2 ^ 62 := by omega
    simp only [n25, r25, hck, h0, hcl, hsort, q1, q2, q3, and_self, if_true, Int.toNat_natCast, Int.toNat_zero, SB, Nat.reduceLT, callee, aOp, ne_eq, Nat.reduceEqDiff, aBin, aUn, if_true, if_false, reduceCtorEq, frame0, place, notTuple, Nat.reduceAdd, Nat.reduceLeDiff, resVal, dite_true, dite_false, Int.reduceEq, Int.reduceLT, Int.reduceLE]
    generalize hz : (List.map (fun j => [Value.int IntKind.i64 0, Value.int IntKind.i64 0, Value.int IntKind.u8 0].getD (j % 3) undef) (List.range (c.length * 3))) = z
    have hzl : z.length = c.length * 3 := by rw [← hz]; simp
    refine Ret_rounds (fun i => c.length - i) (fun i fr G => i ≤ c.length ∧ fr 0 = .slice pl l.length k1 ∧ fr 1 = .slice pt t.length k2 ∧ fr 2 = .slice ps s.length k3 ∧ fr 12 = .map (some G1.length) ∧ fr 13 = .slice (some ⟨G1.length + 1, 0, none⟩) i c.length ∧
      fr 33 = .slice (some ⟨H.length + 1, 0, none⟩) c.length (loose 6) ∧ fr 34 = .int .i64 (c.length : Int) ∧ fr 35 = .int .i64 (i : Int) ∧ Ext G1 G ∧ G1.length + 1 < G.length ∧
      hget G G1.length = .map (metMap (paidA l t s (d.take i))) ∧ ∃ rest, rest.length = (c.length - i) * 3 ∧ hget G (G1.length + 1) = .cells false ((goO l t s [] (d.take i)).flatMap encO ++ rest))
      0 ⟨Nat.zero_le _, (by simp only [upd_same, upd_ne, ne_eq, Nat.reduceEqDiff, not_false_eq_true, frame0, List.getD_cons_zero, List.getD_cons_succ]), (by simp only [upd_same, upd_ne, ne_eq, Nat.reduceEqDiff, not_false_eq_true, frame0, List.getD_cons_zero, List.getD_cons_succ]), (by simp only [upd_same, upd_ne, ne_eq, Nat.reduceEqDiff, not_false_eq_true, frame0, List.getD_cons_zero, List.getD_cons_succ]), (by simp only [upd_same, upd_ne, ne_eq, Nat.reduceEqDiff, not_false_eq_true, frame0, List.getD_cons_zero, List.getD_cons_succ]), (by simp only [upd_same, upd_ne, ne_eq, Nat.reduceEqDiff, not_false_eq_true, frame0, List.getD_cons_zero, List.getD_cons_succ]), (by simp only [upd_same, upd_ne, ne_eq, Nat.reduceEqDiff, not_false_eq_true, frame0, List.getD_cons_zero, List.getD_cons_succ]), (by simp only [upd_same, upd_ne, ne_eq, Nat.reduceEqDiff, not_false_eq_true, frame0, List.getD_cons_zero, List.getD_cons_succ]), by rfl, Ext.refl.app, by simp, hget_new0, z, hzl, hget_new⟩ ?_
    intro i fr G ⟨hi, g0, g1, g2, g12, g13, g33, g34, g35, hE2, hL, hM, rest, hrl, hR⟩ hN
    rw [Ret_code l25_1.eq_1]
    refine Ret_pad ?_
    by_cases hlt' : i < c.length
    · have hid : i < d.length := by omega
      have hE : Ext H G := hE1.trans hE2
      have hxc : gt d i ∈ c := hp.subset (gt_mem hid)
      obtain ⟨o1, o2⟩ := rightC_mem r4 hxc
      have hBG : Sl G encC 6 (some ⟨H.length + 1, 0, none⟩) d := hE2.sl (Sl.lit encC_len (by rw [hB1]; rfl) (by rw [hB1]; rfl))
      have hld := fun X => (hBG.app X).loadCells encC_len hid
      have hidx : ∀ k (kk : IntKind) (H1 : Heap), idxK 6 (.slice (some ⟨H.length + 1, 0, none⟩) c.length k) (.int kk (i : Int)) H1 = some (.pointer (some (elt (some ⟨H.length + 1, 0, none⟩) 6 i)), H1) := fun k kk H1 => by rw [← hdl]; exact hBG.idx hid
      have hw1 : IntKind.i64.wrap ((i : Int) + 1) = ((i + 1 : Nat) : Int) := wrap_nat (by omega)
      have hfo := file_ok (gt d i) r1 r2 r3
      have ho := fun mp lim X Q => open_ok (mp := mp) (lim := lim) (k1 := k1) (k2 := k2) (k3 := k3) (c := gt d i) (Q := Q) ((hE.sl hl).app X) ((hE.sl ht).app X) ((hE.sl hs).app X) nl nt ns r1 (fun x hx => by
        have := (rightN_mem r3 hx).1
        simp only [okN, allIn, inB, Bool.and_eq_true, decide_eq_true_eq, Bool.and_true] at this
        omega)
      have hd := fun mp lim X Q => decide_ok (mp := mp) (lim := lim) (H := G ++ X) (Q := Q) (c := gt d i) (x := (fileS l t s (gt d i)).x) (y := (fileS l t s (gt d i)).y) (p := (fileS l t s (gt d i)).p) (kn := (fileS l t s (gt d i)).kn) (ht := (fileS l t s (gt d i)).ht) (la := decide ((gt d i).kind = 1)) (lo := decide ((gt d i).kind = 2)) (dn := (fileS l t s (gt d i)).dn) (n := paidS (gt d i) (fileS l t s (gt d i)))
        (fun h mp lim H Q => paid_of o1 o2 hfo (h 0) ⟨rfl, rfl, rfl, rfl⟩)
      rw [decF_vrd o1 o2 hfo] at hd
      have htk : d.take (i + 1) = d.take i ++ [gt d i] := by rw [List.take_succ_eq_append_getElem hid, gt_lt hid]
      have hpa : paidA l t s (d.take (i + 1)) = paidN l t s (paidA l t s (d.take i)) (gt d i) := by rw [htk, paidA, List.foldl_append]; rfl
      have hgo : goO l t s [] (d.take (i + 1)) = goO l t s [] (d.take i) ++ [outO l t s (paidA l t s (d.take i)) (gt d i)] := by rw [htk, goO_snoc]; rfl
      have hgl : ((goO l t s [] (d.take i)).flatMap encO).length = i * 3 := by rw [flat_len encO_len, goO_len, List.length_take, Nat.min_eq_left (by omega)]
      have hlit' : (i : Int) < (c.length : Int) := by omega
      have hLL : lim ≤ G1.length := by have := hE1.len; omega
      have hlG : lim ≤ G.length := by omega
      have hM' : ∀ X, hget (G ++ X) G1.length = .map (metMap (paidA l t s (d.take i))) := fun X => by rw [hget_old (by omega)]; exact hM
      simp only [show decideS l t s (gt d i) = vrd (gt d i) (fileS l t s (gt d i)) from rfl, outO, paidN] at hpa hgo
      generalize hv : vrd (gt d i) (fileS l t s (gt d i)) = v at hd hpa hgo
      have happ : ∀ (K : Heap) (o : Int × Int × Int), hget K (G.length + 2) = .cells false (encO o) → hget K (G1.length + 1) = .cells false ((goO l t s [] (d.take i)).flatMap encO ++ rest) →
          aAppend lim none 3 24 false (.slice (some ⟨G1.length + 1, 0, none⟩) i c.length) (.slice (some ⟨G.length + 2, 0, none⟩) 1 1) K = some (.slice (some ⟨G1.length + 1, 0, none⟩) (i + 1) c.length, K.set (G1.length + 1) (.cells false ((goO l t s [] (d.take i) ++ [o]).flatMap encO ++ rest.drop 3))) := by
        intro K o k1 k2
        rw [append_room k1 k2 (by omega) hlt' hgl hrl (encO_len o) (by decide) (by decide) (by omega) (by unfold maxBytes; omega)]
        simp only [List.flatMap_append, List.flatMap_cons, List.flatMap_nil, List.append_nil]
      have hdrop : (rest.drop 3).length = (c.length - (i + 1)) * 3 := by rw [List.length_drop, hrl]; omega
      by_cases c1 : v.2 = 1
      · have c6 : ¬ v.2 = 6 := by omega
        rw [if_neg (by simp [c1])] at hgo
        rw [if_neg (by rw [if_neg (by simp [c1])]; exact c6)] at hpa
        have happ' := fun b0 b1 => happ (G ++ [b0, b1, .cells false [.int .i64 (gt d i).id, .int .i64 v.1, .int .u8 1]]) ((gt d i).id, v.1, 1) (by rw [hget_new]; rfl) (by rw [hget_old (by omega)]; exact hR)
        rw [c1] at hgo
        simp only [n25, r25, g0, g1, g2, g12, g13, g33, g34, g35, hlt', hidx, hld, encC, hw1, ho, hd, c1, c6, hlG, happ', SB, Nat.reduceLT, callee, aOp, ne_eq, Nat.reduceEqDiff, aBin, aUn, if_true, if_false, reduceCtorEq, frame0, place, notTuple, Nat.reduceAdd, Nat.reduceLeDiff, resVal, dite_true, dite_false, Int.reduceEq, Int.reduceLT, Int.reduceLE]
        refine hN (i + 1) _ _ ⟨by omega, (by simp only [g0, upd_same, upd_ne, ne_eq, Nat.reduceEqDiff, not_false_eq_true, frame0, List.getD_cons_zero, List.getD_cons_succ]), (by simp only [g1, upd_same, upd_ne, ne_eq, Nat.reduceEqDiff, not_false_eq_true, frame0, List.getD_cons_zero, List.getD_cons_succ]), (by simp only [g2, upd_same, upd_ne, ne_eq, Nat.reduceEqDiff, not_false_eq_true, frame0, List.getD_cons_zero, List.getD_cons_succ]), (by simp only [g12, upd_same, upd_ne, ne_eq, Nat.reduceEqDiff, not_false_eq_true, frame0, List.getD_cons_zero, List.getD_cons_succ]), (by simp only [upd_same, upd_ne, ne_eq, Nat.reduceEqDiff, not_false_eq_true, frame0, List.getD_cons_zero, List.getD_cons_succ]), (by simp only [g33, upd_same, upd_ne, ne_eq, Nat.reduceEqDiff, not_false_eq_true, frame0, List.getD_cons_zero, List.getD_cons_succ]), (by simp only [g34, upd_same, upd_ne, ne_eq, Nat.reduceEqDiff, not_false_eq_true, frame0, List.getD_cons_zero, List.getD_cons_succ]), (by simp only [upd_same, upd_ne, ne_eq, Nat.reduceEqDiff, not_false_eq_true, frame0, List.getD_cons_zero, List.getD_cons_succ]), Ext_set hE2.app (by omega), by simp; omega, ?_, rest.drop 3, hdrop, ?_⟩ (by omega)
        · rw [hget_set_ne (by omega), hM', hpa]
        · rw [hget_set_eq (by simp; omega), hgo]
      have c1' : (v.2 != 1) = true := by simpa using c1
      by_cases hm : (gt d i).item ∈ paidA l t s (d.take i)
      · obtain ⟨j, hj⟩ := met_yes (i := 0) hm
        rw [if_pos ⟨c1, hm⟩] at hgo
        rw [if_neg (by rw [if_pos ⟨c1, hm⟩]; exact (by decide : ¬ (7 : Int) = 6))] at hpa
        have happ' := fun b0 b1 => happ (G ++ [b0, b1, .cells false [.int .i64 (gt d i).id, .int .i64 0, .int .u8 7]]) ((gt d i).id, 0, 7) (by rw [hget_new]; rfl) (by rw [hget_old (by omega)]; exact hR)
        simp only [n25, r25, g0, g1, g2, g12, g13, g33, g34, g35, hlt', hidx, hld, encC, hw1, ho, hd, c1, hlG, happ', hM', hj, SB, Nat.reduceLT, callee, aOp, ne_eq, Nat.reduceEqDiff, aBin, aUn, if_true, if_false, reduceCtorEq, frame0, place, notTuple, Nat.reduceAdd, Nat.reduceLeDiff, resVal, dite_true, dite_false, Int.reduceEq, Int.reduceLT, Int.reduceLE]
        refine hN (i + 1) _ _ ⟨by omega, (by simp only [g0, upd_same, upd_ne, ne_eq, Nat.reduceEqDiff, not_false_eq_true, frame0, List.getD_cons_zero, List.getD_cons_succ]), (by simp only [g1, upd_same, upd_ne, ne_eq, Nat.reduceEqDiff, not_false_eq_true, frame0, List.getD_cons_zero, List.getD_cons_succ]), (by simp only [g2, upd_same, upd_ne, ne_eq, Nat.reduceEqDiff, not_false_eq_true, frame0, List.getD_cons_zero, List.getD_cons_succ]), (by simp only [g12, upd_same, upd_ne, ne_eq, Nat.reduceEqDiff, not_false_eq_true, frame0, List.getD_cons_zero, List.getD_cons_succ]), (by simp only [upd_same, upd_ne, ne_eq, Nat.reduceEqDiff, not_false_eq_true, frame0, List.getD_cons_zero, List.getD_cons_succ]), (by simp only [g33, upd_same, upd_ne, ne_eq, Nat.reduceEqDiff, not_false_eq_true, frame0, List.getD_cons_zero, List.getD_cons_succ]), (by simp only [g34, upd_same, upd_ne, ne_eq, Nat.reduceEqDiff, not_false_eq_true, frame0, List.getD_cons_zero, List.getD_cons_succ]), (by simp only [upd_same, upd_ne, ne_eq, Nat.reduceEqDiff, not_false_eq_true, frame0, List.getD_cons_zero, List.getD_cons_succ]), Ext_set hE2.app (by omega), by simp; omega, ?_, rest.drop 3, hdrop, ?_⟩ (by omega)
        · rw [hget_set_ne (by omega), hM', hpa]
        · rw [hget_set_eq (by simp; omega), hgo]
      · have hj := met_no (i := 0) hm
        rw [if_neg (by simp [hm])] at hgo
        rw [if_neg (show ¬ (v.2 ≠ 1 ∧ (gt d i).item ∈ paidA l t s (d.take i)) by simp [hm])] at hpa
        by_cases c6 : v.2 = 6
        · rw [if_pos (show ((gt d i).id, v.1, v.2).2.2 = 6 from c6)] at hpa
          rw [c6] at hgo
          have hset : ∀ X, (G ++ X).set G1.length (.map (metMap (paidA l t s (d.take i) ++ [(gt d i).item]))) = G.set G1.length (.map (metMap (paidA l t s (d.take i) ++ [(gt d i).item]))) ++ X := fun X => List.set_append_left _ _ (by omega)
          have hsl : (G.set G1.length (.map (metMap (paidA l t s (d.take i) ++ [(gt d i).item])))).length = G.length := by simp
          have hsm : hget (G.set G1.length (.map (metMap (paidA l t s (d.take i) ++ [(gt d i).item])))) G1.length = .map (metMap (paidA l t s (d.take i) ++ [(gt d i).item])) := hget_set_eq (by omega)
          have hsr : hget (G.set G1.length (.map (metMap (paidA l t s (d.take i) ++ [(gt d i).item])))) (G1.length + 1) = .cells false ((goO l t s [] (d.take i)).flatMap encO ++ rest) := by rw [hget_set_ne (by omega)]; exact hR
          have hsE : Ext G1 (G.set G1.length (.map (metMap (paidA l t s (d.take i) ++ [(gt d i).item])))) := Ext_set hE2 (by omega)
          generalize G.set G1.length (.map (metMap (paidA l t s (d.take i) ++ [(gt d i).item]))) = Gs at hset hsl hsm hsr hsE
          have hgn : ∀ X j, hget (Gs ++ X) (G.length + j) = X.getD j .dead := fun X j => by rw [← hsl]; exact hget_new
          have happ' := fun b0 b1 => happ (Gs ++ [b0, b1, .cells false [.int .i64 (gt d i).id, .int .i64 v.1, .int .u8 6]]) ((gt d i).id, v.1, 6) (by rw [hgn]; rfl) (by rw [hget_old (by omega)]; exact hsr)
          simp only [n25, r25, g0, g1, g2, g12, g13, g33, g34, g35, hlt', hidx, hld, encC, hw1, ho, hd, c1, c6, hlG, hM', hj, hLL, met_add, hset, hsl, hgn, happ', SB, Nat.reduceLT, callee, aOp, ne_eq, Nat.reduceEqDiff, aBin, aUn, if_true, if_false, reduceCtorEq, frame0, place, notTuple, Nat.reduceAdd, Nat.reduceLeDiff, resVal, dite_true, dite_false, Int.reduceEq, Int.reduceLT, Int.reduceLE]
          refine hN (i + 1) _ _ ⟨by omega, (by simp only [g0, upd_same, upd_ne, ne_eq, Nat.reduceEqDiff, not_false_eq_true, frame0, List.getD_cons_zero, List.getD_cons_succ]), (by simp only [g1, upd_same, upd_ne, ne_eq, Nat.reduceEqDiff, not_false_eq_true, frame0, List.getD_cons_zero, List.getD_cons_succ]), (by simp only [g2, upd_same, upd_ne, ne_eq, Nat.reduceEqDiff, not_false_eq_true, frame0, List.getD_cons_zero, List.getD_cons_succ]), (by simp only [g12, upd_same, upd_ne, ne_eq, Nat.reduceEqDiff, not_false_eq_true, frame0, List.getD_cons_zero, List.getD_cons_succ]), (by simp only [upd_same, upd_ne, ne_eq, Nat.reduceEqDiff, not_false_eq_true, frame0, List.getD_cons_zero, List.getD_cons_succ]), (by simp only [g33, upd_same, upd_ne, ne_eq, Nat.reduceEqDiff, not_false_eq_true, frame0, List.getD_cons_zero, List.getD_cons_succ]), (by simp only [g34, upd_same, upd_ne, ne_eq, Nat.reduceEqDiff, not_false_eq_true, frame0, List.getD_cons_zero, List.getD_cons_succ]), (by simp only [upd_same, upd_ne, ne_eq, Nat.reduceEqDiff, not_false_eq_true, frame0, List.getD_cons_zero, List.getD_cons_succ]), Ext_set hsE.app (by omega), by simp; omega, ?_, rest.drop 3, hdrop, ?_⟩ (by omega)
          · rw [hget_set_ne (by omega), hget_old (by omega), hpa]; exact hsm
          · rw [hget_set_eq (by simp; omega), hgo]
        · rw [if_neg (show ¬ ((gt d i).id, v.1, v.2).2.2 = 6 from c6)] at hpa
          have happ' := fun b0 b1 => happ (G ++ [b0, b1, .cells false [.int .i64 (gt d i).id, .int .i64 v.1, .int .u8 v.2]]) ((gt d i).id, v.1, v.2) (by rw [hget_new]; rfl) (by rw [hget_old (by omega)]; exact hR)
          simp only [n25, r25, g0, g1, g2, g12, g13, g33, g34, g35, hlt', hidx, hld, encC, hw1, ho, hd, c1, c6, hlG, happ', hM', hj, SB, Nat.reduceLT, callee, aOp, ne_eq, Nat.reduceEqDiff, aBin, aUn, if_true, if_false, reduceCtorEq, frame0, place, notTuple, Nat.reduceAdd, Nat.reduceLeDiff, resVal, dite_true, dite_false, Int.reduceEq, Int.reduceLT, Int.reduceLE]
          refine hN (i + 1) _ _ ⟨by omega, (by simp only [g0, upd_same, upd_ne, ne_eq, Nat.reduceEqDiff, not_false_eq_true, frame0, List.getD_cons_zero, List.getD_cons_succ]), (by simp only [g1, upd_same, upd_ne, ne_eq, Nat.reduceEqDiff, not_false_eq_true, frame0, List.getD_cons_zero, List.getD_cons_succ]), (by simp only [g2, upd_same, upd_ne, ne_eq, Nat.reduceEqDiff, not_false_eq_true, frame0, List.getD_cons_zero, List.getD_cons_succ]), (by simp only [g12, upd_same, upd_ne, ne_eq, Nat.reduceEqDiff, not_false_eq_true, frame0, List.getD_cons_zero, List.getD_cons_succ]), (by simp only [upd_same, upd_ne, ne_eq, Nat.reduceEqDiff, not_false_eq_true, frame0, List.getD_cons_zero, List.getD_cons_succ]), (by simp only [g33, upd_same, upd_ne, ne_eq, Nat.reduceEqDiff, not_false_eq_true, frame0, List.getD_cons_zero, List.getD_cons_succ]), (by simp only [g34, upd_same, upd_ne, ne_eq, Nat.reduceEqDiff, not_false_eq_true, frame0, List.getD_cons_zero, List.getD_cons_succ]), (by simp only [upd_same, upd_ne, ne_eq, Nat.reduceEqDiff, not_false_eq_true, frame0, List.getD_cons_zero, List.getD_cons_succ]), Ext_set hE2.app (by omega), by simp; omega, ?_, rest.drop 3, hdrop, ?_⟩ (by omega)
          · rw [hget_set_ne (by omega), hM', hpa]
          · rw [hget_set_eq (by simp; omega), hgo]
    · obtain rfl : i = c.length := by omega
      clear hN
      rw [show d.take c.length = d by rw [← hdl, List.take_length]] at hR
      have hr0 : rest = [] := List.length_eq_zero_iff.1 (by rw [hrl]; simp)
      rw [hr0, List.append_nil] at hR
      simp only [n25, r25, g0, g1, g2, g12, g13, g33, g34, g35, hlt', SB, Nat.reduceLT, callee, aOp, ne_eq, Nat.reduceEqDiff, aBin, aUn, if_true, if_false, reduceCtorEq, frame0, place, notTuple, Nat.reduceAdd, Nat.reduceLeDiff, resVal, dite_true, dite_false, Int.reduceEq, Int.reduceLT, Int.reduceLE]
      exact ⟨(hE1.trans hE2).app, Sl.lit encO_len (by rw [hget_old (by omega), hR]; rfl) (by rw [hget_old (by omega), hR]; rfl)⟩
  obtain ⟨k, v, H', hx, rfl, ⟨Y, rfl⟩, hs'⟩ := key
  exact ⟨d, _, Y, hp, hlt, hs', (fun h => by cases h), fun Q => CallR.det hx⟩
end Go.Proofs.Ytlmoijifgbkapaa.Fn
namespace Go.Proofs.Ytlmoijifgbkapaa.Fn
open Go.AM Go.AM.Sym Go.Sort
set_option maxRecDepth 100000
set_option linter.unusedVariables false
set_option linter.unusedSimpArgs false
set_option maxHeartbeats 4000000
theorem Settle_nil {lim : Nat} {pl pt ps pc : Option Addr} {l : List Std} {t : List Trm} {s : List Snt} {k1 k2 k3 k4 : Nat} {H : Heap} (hl : Sl H encS 4 pl l) (ht : Sl H encT 7 pt t) (hs : Sl H encN 6 ps s) (hc : Sl H encC 6 pc ([] : List Clm)) (nl : l.length < 2 ^ 62) (nt : t.length < 2 ^ 62) (ns : s.length < 2 ^ 62) (h0 : checkS l t s [] = 0) :
    ∃ (p : Option Addr) (Y : Heap), Sl (H ++ Y) encO 3 p ([] : List (Int × Int × Int)) ∧ ∀ Q, CallR E false lim 25 [.slice pl l.length k1, .slice pt t.length k2, .slice ps s.length k3, .slice pc 0 k4] H Q = Q (.tuple #[.slice p 0 0, .int .i64 0]) (H ++ Y) := by
  obtain ⟨p', k', Y, hcl⟩ := clone_nil (lim := lim) (cap := k4) (p := pc) (H := H)
  obtain ⟨G1, hG1⟩ : ∃ G, G = H ++ Y := ⟨_, rfl⟩
  have hcl' : ∀ Q, CallR E false lim 49 [.slice pc 0 k4] (H ++ []) Q = Q (.slice p' 0 k') (G1 ++ []) := fun Q => by rw [List.append_nil, List.append_nil, hG1]; exact hcl Q
  have key : CallR E false lim 25 [.slice pl l.length k1, .slice pt t.length k2, .slice ps s.length k3, .slice pc 0 k4] H (fun v H' => v = .tuple #[.slice (some ⟨G1.length + 1, 0, none⟩) 0 0, .int .i64 0] ∧ Ext H H') := by
    rw [CallR_run (E := E) (g := 25) (af := a25) (by simp [E, orc]) e25 rfl rfl]
    rw [b25, c25]
    refine Ret_pad ?_
    have hck : ∀ mp lim X Q, CallR E mp lim 37 [.slice pl l.length k1, .slice pt t.length k2, .slice ps s.length k3, .slice pc 0 k4] (H ++ X) Q = Q (.int .i64 (checkS l t s [])) (H ++ X) := fun mp lim X Q => check_ok (c := []) (mp := mp) (lim := lim) (k1 := k1) (k2 := k2) (k3 := k3) (k4 := k4) (Q := Q) (hl.app X) (ht.app X) (hs.app X) (hc.app X) nl nt ns (by simp)
    have hsn : ∀ X Q, CallR E false lim 50 [.slice p' 0 k', .func (.func 51) #[] #[]] (G1 ++ X) Q = Q (.tuple #[]) (G1 ++ X) := fun X Q => sort_nil (cs := [])
    have q1 : (0 : Int) * 24 ≤ 2 ^ 45 := by decide
    have q2 : (0 : Int) < 2 ^ 62 := by decide
    simp only [n25, r25, hck, h0, hcl', hsn, q1, q2, and_self, if_true, Int.toNat_zero, SB, Nat.reduceLT, callee, aOp, ne_eq, Nat.reduceEqDiff, aBin, aUn, if_true, if_false, reduceCtorEq, frame0, place, notTuple, Nat.reduceAdd, Nat.reduceLeDiff, resVal, dite_true, dite_false, Int.reduceEq, Int.reduceLT, Int.reduceLE]
    rw [Ret_loop, Ret_code l25_1.eq_1]
    simp only [n25, r25, SB, Nat.reduceLT, callee, aOp, ne_eq, Nat.reduceEqDiff, aBin, aUn, if_true, if_false, reduceCtorEq, frame0, place, notTuple, Nat.reduceAdd, Nat.reduceLeDiff, resVal, dite_true, dite_false, Int.reduceEq, Int.reduceLT, Int.reduceLE]
    rw [hG1]
    simpa using (Ext.refl.app.app : Ext H (H ++ Y ++ _))
  obtain ⟨k, v, H', hx, rfl, ⟨Y', rfl⟩⟩ := key
  exact ⟨some ⟨G1.length + 1, 0, none⟩, Y', by unfold Sl; exact ⟨rfl, fun h => absurd rfl h⟩, fun Q => CallR.det hx⟩

theorem Settle_ok {lim : Nat} {pl pt ps pc : Option Addr} {l : List Std} {t : List Trm} {s : List Snt} {c : List Clm} {k1 k2 k3 k4 : Nat} {H : Heap} (hl : Sl H encS 4 pl l) (ht : Sl H encT 7 pt t) (hs : Sl H encN 6 ps s) (hc : Sl H encC 6 pc c) (nl : l.length < 2 ^ 62) (nt : t.length < 2 ^ 62) (ns : s.length < 2 ^ 62) (nc : c.length < 2 ^ 62) (hlim : lim ≤ H.length) (h0 : checkS l t s c = 0) (hpn : c ≠ [] → pc ≠ none) :
    ∃ (d : List Clm) (p : Option Addr) (Y : Heap), d.Perm c ∧ d.Pairwise Lt ∧ Sl (H ++ Y) encO 3 p (goO l t s [] d) ∧ ∀ Q, CallR E false lim 25 [.slice pl l.length k1, .slice pt t.length k2, .slice ps s.length k3, .slice pc c.length k4] H Q = Q (.tuple #[.slice p c.length c.length, .int .i64 0]) (H ++ Y) := by
  by_cases hc0 : c = []
  · subst hc0
    obtain ⟨p, Y, h1, h2⟩ := Settle_nil (lim := lim) (k1 := k1) (k2 := k2) (k3 := k3) (k4 := k4) hl ht hs hc nl nt ns h0
    exact ⟨[], p, Y, .nil, .nil, h1, h2⟩
  · obtain ⟨d, p, Y, h1, h2, h3, _, h4⟩ := Settle_run (lim := lim) (k1 := k1) (k2 := k2) (k3 := k3) (k4 := k4) hl ht hs hc nl nt ns nc hlim h0 hpn hc0
    exact ⟨d, p, Y, h1, h2, h3, h4⟩

/-- The claim with an ID, the first one. -/
theorem findC_ok {mp : Bool} {lim : Nat} {p : Option Addr} {c : List Clm} {cap : Nat} {n : Int} {H : Heap} {Q : Value → Heap → Prop} (hc : Sl H encC 6 p c) (nc : c.length < 2 ^ 62) :
    CallR E mp lim 29 [.slice p c.length cap, .int .i64 n] H Q = Q (.tuple #[.agg (encC ((c.find? fun x => decide (x.id = n)).getD default)).toArray, .bool (c.find? fun x => decide (x.id = n)).isSome]) H := by
  refine pc (by decide) e29 rfl rfl ?_
  rw [b29, c29]
  simp only [n29, r29, SB, Nat.reduceLT, callee, aOp, ne_eq, Nat.reduceEqDiff, aBin, aUn, if_true, if_false, reduceCtorEq, frame0, place, notTuple, Nat.reduceAdd, Nat.reduceLeDiff, resVal, dite_true, dite_false, Int.reduceEq, Int.reduceLT, Int.reduceLE]
  refine Ret_rounds (fun i => c.length - i) (fun i fr G => i ≤ c.length ∧ fr 0 = .slice p c.length cap ∧ fr 1 = .int .i64 n ∧ fr 6 = .int .i64 (i : Int) ∧
    fr 4 = .pointer (some ⟨H.length, 0, none⟩) ∧ Ext H G ∧ hget G H.length = .cells false [.int .i64 0, .int .i64 0, .int .i64 0, .int .u8 0, .int .i64 0, .int .i64 0] ∧
    (c.find? fun x => decide (x.id = n)) = (c.drop i).find? fun x => decide (x.id = n)) 0 ⟨Nat.zero_le _, (by simp only [upd_same, upd_ne, ne_eq, Nat.reduceEqDiff, not_false_eq_true, frame0, List.getD_cons_zero, List.getD_cons_succ]), (by simp only [upd_same, upd_ne, ne_eq, Nat.reduceEqDiff, not_false_eq_true, frame0, List.getD_cons_zero, List.getD_cons_succ]), by rfl, (by simp only [upd_same, upd_ne, ne_eq, Nat.reduceEqDiff, not_false_eq_true, frame0, List.getD_cons_zero, List.getD_cons_succ]), Ext.refl.app, hget_new0, rfl⟩ ?_
  intro i fr G ⟨hi, h0, h1, h6, h4, hE, hz, ha⟩ hN
  rw [Ret_code l29_1.eq_1]
  refine Ret_pad ?_
  have hL := hE.len
  have hzl := hget_alive hz
  have hz' := fun X => (Ext.refl.app (X := X)).cells hz
  by_cases hlt : i < c.length
  · have hg := hE.sl hc
    have hld := fun X => (hg.app X).loadCells encC_len hlt
    have hldj := fun X j hj => (hg.app X).loadCell (j := j) encC_len hlt hj
    have hidx := fun c' (k : IntKind) (H1 : Heap) => hg.idx (c := c') (k := k) (H1 := H1) hlt
    have hw1 : IntKind.i64.wrap ((i : Int) + 1) = ((i + 1 : Nat) : Int) := wrap_nat (by omega)
    rw [find_drop hlt] at ha
    by_cases hw : (gt c i).id = n
    · simp only [n29, r29, h0, h1, h6, h4, hlt, hL, hidx, hld, hldj, encC, hw1, hw, hz', hget_set_eq, List.length_set, Nat.lt_add_right, hzl, SB, Nat.reduceLT, callee, aOp, ne_eq, Nat.reduceEqDiff, aBin, aUn, if_true, if_false, reduceCtorEq, frame0, place, notTuple, Nat.reduceAdd, Nat.reduceLeDiff, resVal, dite_true, dite_false, Int.reduceEq, Int.reduceLT, Int.reduceLE]
      rw [ha, if_pos (by simpa using hw)]; simp [hw]
    · simp only [n29, r29, h0, h1, h6, h4, hlt, hL, hidx, hld, hldj, encC, hw1, hw, SB, Nat.reduceLT, callee, aOp, ne_eq, Nat.reduceEqDiff, aBin, aUn, if_true, if_false, reduceCtorEq, frame0, place, notTuple, Nat.reduceAdd, Nat.reduceLeDiff, resVal, dite_true, dite_false, Int.reduceEq, Int.reduceLT, Int.reduceLE]
      refine hN (i + 1) _ _ ⟨by omega, (by simp only [h0, upd_same, upd_ne, ne_eq, Nat.reduceEqDiff, not_false_eq_true, frame0, List.getD_cons_zero, List.getD_cons_succ]), (by simp only [h1, upd_same, upd_ne, ne_eq, Nat.reduceEqDiff, not_false_eq_true, frame0, List.getD_cons_zero, List.getD_cons_succ]), (by simp only [upd_same, upd_ne, ne_eq, Nat.reduceEqDiff, not_false_eq_true, frame0, List.getD_cons_zero, List.getD_cons_succ]), (by simp only [h4, upd_same, upd_ne, ne_eq, Nat.reduceEqDiff, not_false_eq_true, frame0, List.getD_cons_zero, List.getD_cons_succ]), hE.app, hz' _, ?_⟩ (by omega)
      rw [ha, if_neg (by simpa using hw)]
  · obtain rfl : i = c.length := by omega
    rw [List.drop_length, List.find?_nil] at ha
    simp only [n29, r29, h0, h1, h6, h4, hlt, ha, hz', hzl, hL, hget_set_eq, List.length_set, Nat.lt_add_right, SB, Nat.reduceLT, callee, aOp, ne_eq, Nat.reduceEqDiff, aBin, aUn, if_true, if_false, reduceCtorEq, frame0, place, notTuple, Nat.reduceAdd, Nat.reduceLeDiff, resVal, dite_true, dite_false, Int.reduceEq, Int.reduceLT, Int.reduceLE]
    rfl
end Go.Proofs.Ytlmoijifgbkapaa.Fn
