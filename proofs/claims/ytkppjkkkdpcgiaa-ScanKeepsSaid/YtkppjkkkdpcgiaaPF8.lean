/-
  Joined texts, 8 of 9. A part of the claim that the last text states.
-/
import Derived.Test.YtkppjkkkdpcgiaaPF7
namespace Go.Proofs.Ytkppjkkkdpcgiaa.Fn.SM
open Go.AM Go.AM.Sym Go.Sort
set_option maxRecDepth 100000
set_option linter.unusedVariables false
set_option linter.unusedSimpArgs false
set_option maxHeartbeats 4000000
def tlc : ACode → ACode
  | .seq _ b => b
  | x => x
def unb : ACode → ACode
  | .block _ b => b
  | x => x
def q1 : ACode := tlc (tlc (tlc (tlc (unb l81_1))))
def q2 : ACode := tlc (tlc q1)
def q3 : ACode := tlc q2
def hdc : ACode → ACode
  | .seq a _ => a
  | x => x
def p1 : ACode := hdc (unb l81_1)
def p2 : ACode := hdc (tlc (unb l81_1))
def p3 : ACode := hdc (tlc (tlc (unb l81_1)))
def p4 : ACode := hdc (tlc (tlc (tlc (unb l81_1))))
theorem body_eq : l81_1 = .block 1 (.seq p1 (.seq p2 (.seq p3 (.seq p4 q1)))) := rfl
def p5 : ACode := hdc q2
theorem q2_eq : q2 = .seq p5 q3 := rfl
def p6 : ACode := hdc q1
def p7 : ACode := hdc (tlc q1)
theorem q1_eq : q1 = .seq p6 (.seq p7 q2) := rfl
def Done (G : Heap) (B n : Nat) (c : Go.Scan.Mk → Go.Scan.Mk → Int) (a b : Nat) (d : Array Go.Scan.Mk) (X : Heap) (v : Value) (H' : Heap) : Prop :=
  ∃ d' Y, d'.size = n ∧ PermIn a b d d' ∧ SortedIn (ltC c) a b d' ∧ v = .tuple #[] ∧ H' = DH encK G B d' ++ (X ++ Y)
theorem Done.perm [OB] {G : Heap} {B n : Nat} {c : Go.Scan.Mk → Go.Scan.Mk → Int} {a b : Nat} {d d1 : Array Go.Scan.Mk} {X Y : Heap} {v : Value} {H' : Heap} (h : Done G B n c a b d1 (X ++ Y) v H') (hP : PermIn a b d d1) : Done G B n c a b d X v H' := by
  obtain ⟨d', Z, h1, h2, h3, h4, h5⟩ := h
  exact ⟨d', Y ++ Z, h1, permIn_trans _ _ _ _ _ hP h2, h3, h4, by rw [h5]; simp⟩
theorem pdq3 [OB] {G X : Heap} {B lim cap n : Nat} {p : Option Addr} {c : Go.Scan.Mk → Go.Scan.Mk → Int} {cl : FuncId} {cs : List Value} (hp : p = some ⟨B, 0, none⟩) (hB : B < G.length) (hl : lim ≤ B) (hn2 : n < 2 ^ 61) (hc : ∀ (mp : Bool) (lim : Nat) (x y : Go.Scan.Mk) (H : Heap) (Q : Value → Heap → Prop), CallR E mp lim cl (.agg (encK x).toArray :: .agg (encK y).toArray :: cs) H Q = Q (.int .i64 (c x y)) H) (hS : SWO (ltC c)) {d : Array Go.Scan.Mk} {a b v lm m : Nat} {wb wp : Bool} {fr : Nat → Value} {L : List AItem} (hT : ∀ (a b lm : Nat) (wb wp : Bool) (d : Array Go.Scan.Mk) (X : Heap) (fr : Nat → Value), b - a < m → a ≤ b → b ≤ n → d.size = n → Below (ltC c) a b d → lm < 2 ^ 60 → fr 0 = .slice p n cap → fr 1 = .int .i64 (a : Int) → fr 2 = .int .i64 (b : Int) → fr 3 = .int .i64 (lm : Int) → fr 4 = .func (.func cl) #[] cs.toArray → fr 10 = .bool wb → fr 11 = .bool wp → Ret E a81 lim L fr (DH encK G B d ++ X) (Done G B n c a b d X)) (hC : ∀ (a b lm : Nat) (d : Array Go.Scan.Mk) (X : Heap), b - a < m → a ≤ b → b ≤ n → d.size = n → Below (ltC c) a b d → lm < 2 ^ 60 → ∃ d' Y, d'.size = n ∧ PermIn a b d d' ∧ SortedIn (ltC c) a b d' ∧ ∀ Q, CallR E false lim 81 [.slice p n cap, .int .i64 (a : Int), .int .i64 (b : Int), .int .i64 (lm : Int), .func (.func cl) #[] cs.toArray] (DH encK G B d ++ X) Q = Q (.tuple #[]) (DH encK G B d' ++ (X ++ Y))) (hm : b - a ≤ m) (hd : d.size = n) (hb : b ≤ n) (hv : a ≤ v ∧ v < b) (hlm : lm < 2 ^ 60) (hBl : Below (ltC c) a b d) (g0 : fr 0 = .slice p n cap) (g1 : fr 1 = .int .i64 (a : Int)) (g2 : fr 2 = .int .i64 (b : Int)) (g3 : fr 3 = .int .i64 (lm : Int)) (g4 : fr 4 = .func (.func cl) #[] cs.toArray) (g10 : fr 10 = .bool wb) (g11 : fr 11 = .bool wp) (g12 : fr 12 = .int .i64 ((b - a : Nat) : Int)) (g13 : fr 13 = .int .i64 (v : Int)) :
    Ret E a81 lim (.code q3 :: .inBlock 1 :: L) fr (DH encK G B d ++ X) (Done G B n c a b d X) := by
  simp only [q3, q2, q1, tlc, unb, l81_1]
  have ld := fun (i : Nat) (X : Heap) (d : Array Go.Scan.Mk) (hd : d.size = n) (hi : i < n) => DH_ld (X := X) (d := d) (i := i) hp hB encK_len (by omega); have st := fun (i : Nat) (X : Heap) (d : Array Go.Scan.Mk) (hd : d.size = n) (hi : i < n) (y : Go.Scan.Mk) => DH_st (X := X) (d := d) (i := i) (y := y) hp hB hl encK_len (by omega); have ix := fun (i : Nat) (hi : i < n) c (k : IntKind) (H : Heap) => DH_idx (e := 3) (i := i) (n := n) (c := c) (k := k) (H := H) hp hi
  have hw0 : 0 < a → IntKind.i64.wrap ((a : Int) - 1) = ((a - 1 : Nat) : Int) := fun h => wrap_pred h (by omega)
  have i1 : v < n := by omega
  by_cases c1 : 0 < a ∧ ¬ c d[a - 1]! d[v]! < 0
  · obtain ⟨c1, c2⟩ := c1
    have i2 : a - 1 < n := by omega
    have hpe := fun Q => peq_ok (X := X) (cap := cap) (a := a) (b := b) (v := v) (Q := Q) hp hB hl hn2 hc hd hb hv.1 hv.2
    generalize hx : partitionEqual (ltC c) d a b v = r at hpe
    obtain ⟨mid, d4⟩ := r
    obtain ⟨r1, r2, r3, r4, r5⟩ := round_eq hS (partitionEqual_holds (ltC c)) c1 hv.1 hv.2 (by omega) hBl (by simp [ltC, c2]) hx
    have hw0' := hw0 c1
    simp only [n81, r81, g0, g1, g2, g3, g4, g10, g11, g12, g13, c1, c2, hw0', ld, st, ix, List.append_nil, Array.size_setIfInBounds, encK_len, hd, i1, i2, hc, hpe, SB, Nat.reduceLT, callee, aOp, ne_eq, Nat.reduceEqDiff, aBin, aUn, if_true, if_false, reduceCtorEq, frame0, place, notTuple, Nat.reduceAdd, Nat.reduceLeDiff, resVal, dite_true, dite_false, Int.reduceEq, Int.reduceLT, Int.reduceLE]
    exact (hT mid b lm wb wp d4 X _ (by omega) r2 hb (by omega) r4 hlm (by simp only [g0, FB, Nat.reduceEqDiff]) (by simp only [FB, Nat.reduceEqDiff]) (by simp only [g2, FB, Nat.reduceEqDiff]) (by simp only [g3, FB, Nat.reduceEqDiff]) (by simp only [g4, FB, Nat.reduceEqDiff]) (by simp only [g10, FB, Nat.reduceEqDiff]) (by simp only [g11, FB, Nat.reduceEqDiff])).mono fun v H' ⟨d', Y, s1, s2, s3, s4, s5⟩ => ⟨d', Y, s1, (r5 d' s2 s3).1, (r5 d' s2 s3).2, s4, s5⟩
  · have hpt := fun Q => part_sort (X := X) (cap := cap) (a := a) (b := b) (v := v) (Q := Q) hp hB hl hn2 hc hd hb hv.1 hv.2
    generalize hx : Sort.partition (ltC c) d a b v = r at hpt
    obtain ⟨mid, ap, d4⟩ := r
    obtain ⟨r1, r2, r3, r4, r5, r6, r7⟩ := round_part hS (partition_holds (ltC c)) hv.1 hv.2 (by omega) hBl hx
    simp only at hpt
    have hw1 : IntKind.i64.wrap ((mid : Int) - (a : Int)) = ((mid - a : Nat) : Int) := wrap_int (by omega) (by omega)
    have hw2 : IntKind.i64.wrap ((b : Int) - (mid : Int)) = ((b - mid : Nat) : Int) := wrap_int (by omega) (by omega)
    have hw3 : IntKind.i64.wrap ((mid : Int) + 1) = ((mid + 1 : Nat) : Int) := wrap_nat (by omega)
    have hq : ((b - a : Nat) : Int).tdiv 8 = (((b - a) / 8 : Nat) : Int) := tdiv_nat (b := 8)
    have hw4 : IntKind.i64.wrap (((b - a) / 8 : Nat) : Int) = (((b - a) / 8 : Nat) : Int) := wrap_int rfl (by omega)
    have hor : (0 < a ∧ c d[a - 1]! d[v]! < 0) ∨ ¬ 0 < a := by
      by_cases q : 0 < a
      · exact .inl ⟨q, Classical.byContradiction fun q2 => c1 ⟨q, q2⟩⟩
      · exact .inr q
    by_cases c5 : mid - a < b - mid
    · obtain ⟨dL, Y, l1, l2, l3, l4⟩ := hC a mid lm d4 X (by omega) r1 (by omega) (by omega) r4 hlm
      obtain ⟨k1, k2⟩ := r6 dL l2 l3
      rcases hor with ⟨c2, c3⟩ | c2
      · have hw0' := hw0 c2
        have i2 : a - 1 < n := by omega
        simp only [n81, r81, g0, g1, g2, g3, g4, g10, g11, g12, g13, c2, c3, hw0', ld, st, ix, List.append_nil, Array.size_setIfInBounds, encK_len, hd, i1, i2, hc, hpt, hw1, hw2, hw3, hq, hw4, c5, l4, SB, Nat.reduceLT, callee, aOp, ne_eq, Nat.reduceEqDiff, aBin, aUn, if_true, if_false, reduceCtorEq, frame0, place, notTuple, Nat.reduceAdd, Nat.reduceLeDiff, resVal, dite_true, dite_false, Int.reduceEq, Int.reduceLT, Int.reduceLE]
        exact (hT (mid + 1) b lm (decide ((b - a) / 8 ≤ mid - a)) ap dL (X ++ Y) _ (by omega) (by omega) hb l1 k1 hlm (by simp only [g0, FB, Nat.reduceEqDiff]) (by simp only [FB, Nat.reduceEqDiff]) (by simp only [g2, FB, Nat.reduceEqDiff]) (by simp only [g3, FB, Nat.reduceEqDiff]) (by simp only [g4, FB, Nat.reduceEqDiff]) (by simp only [FB, Nat.reduceEqDiff]) (by simp only [FB, Nat.reduceEqDiff])).mono fun v H' ⟨d', Z, s1, s2, s3, s4, s5⟩ => ⟨d', Y ++ Z, s1, (k2 d' s2 s3).1, (k2 d' s2 s3).2, s4, by rw [s5]; simp⟩
      · simp only [n81, r81, g0, g1, g2, g3, g4, g10, g11, g12, g13, c2, ld, st, ix, List.append_nil, Array.size_setIfInBounds, encK_len, hd, i1, hc, hpt, hw1, hw2, hw3, hq, hw4, c5, l4, SB, Nat.reduceLT, callee, aOp, ne_eq, Nat.reduceEqDiff, aBin, aUn, if_true, if_false, reduceCtorEq, frame0, place, notTuple, Nat.reduceAdd, Nat.reduceLeDiff, resVal, dite_true, dite_false, Int.reduceEq, Int.reduceLT, Int.reduceLE]
        exact (hT (mid + 1) b lm (decide ((b - a) / 8 ≤ mid - a)) ap dL (X ++ Y) _ (by omega) (by omega) hb l1 k1 hlm (by simp only [g0, FB, Nat.reduceEqDiff]) (by simp only [FB, Nat.reduceEqDiff]) (by simp only [g2, FB, Nat.reduceEqDiff]) (by simp only [g3, FB, Nat.reduceEqDiff]) (by simp only [g4, FB, Nat.reduceEqDiff]) (by simp only [FB, Nat.reduceEqDiff]) (by simp only [FB, Nat.reduceEqDiff])).mono fun v H' ⟨d', Z, s1, s2, s3, s4, s5⟩ => ⟨d', Y ++ Z, s1, (k2 d' s2 s3).1, (k2 d' s2 s3).2, s4, by rw [s5]; simp⟩
    · obtain ⟨dL, Y, l1, l2, l3, l4⟩ := hC (mid + 1) b lm d4 X (by omega) (by omega) hb (by omega) r5 hlm
      obtain ⟨k1, k2⟩ := r7 dL l2 l3
      rcases hor with ⟨c2, c3⟩ | c2
      · have hw0' := hw0 c2
        have i2 : a - 1 < n := by omega
        simp only [n81, r81, g0, g1, g2, g3, g4, g10, g11, g12, g13, c2, c3, hw0', ld, st, ix, List.append_nil, Array.size_setIfInBounds, encK_len, hd, i1, i2, hc, hpt, hw1, hw2, hw3, hq, hw4, c5, l4, SB, Nat.reduceLT, callee, aOp, ne_eq, Nat.reduceEqDiff, aBin, aUn, if_true, if_false, reduceCtorEq, frame0, place, notTuple, Nat.reduceAdd, Nat.reduceLeDiff, resVal, dite_true, dite_false, Int.reduceEq, Int.reduceLT, Int.reduceLE]
        exact (hT a mid lm (decide ((b - a) / 8 ≤ b - mid)) ap dL (X ++ Y) _ (by omega) r1 (by omega) l1 k1 hlm (by simp only [g0, FB, Nat.reduceEqDiff]) (by simp only [g1, FB, Nat.reduceEqDiff]) (by simp only [FB, Nat.reduceEqDiff]) (by simp only [g3, FB, Nat.reduceEqDiff]) (by simp only [g4, FB, Nat.reduceEqDiff]) (by simp only [FB, Nat.reduceEqDiff]) (by simp only [FB, Nat.reduceEqDiff])).mono fun v H' ⟨d', Z, s1, s2, s3, s4, s5⟩ => ⟨d', Y ++ Z, s1, (k2 d' s2 s3).1, (k2 d' s2 s3).2, s4, by rw [s5]; simp⟩
      · simp only [n81, r81, g0, g1, g2, g3, g4, g10, g11, g12, g13, c2, ld, st, ix, List.append_nil, Array.size_setIfInBounds, encK_len, hd, i1, hc, hpt, hw1, hw2, hw3, hq, hw4, c5, l4, SB, Nat.reduceLT, callee, aOp, ne_eq, Nat.reduceEqDiff, aBin, aUn, if_true, if_false, reduceCtorEq, frame0, place, notTuple, Nat.reduceAdd, Nat.reduceLeDiff, resVal, dite_true, dite_false, Int.reduceEq, Int.reduceLT, Int.reduceLE]
        exact (hT a mid lm (decide ((b - a) / 8 ≤ b - mid)) ap dL (X ++ Y) _ (by omega) r1 (by omega) l1 k1 hlm (by simp only [g0, FB, Nat.reduceEqDiff]) (by simp only [g1, FB, Nat.reduceEqDiff]) (by simp only [FB, Nat.reduceEqDiff]) (by simp only [g3, FB, Nat.reduceEqDiff]) (by simp only [g4, FB, Nat.reduceEqDiff]) (by simp only [FB, Nat.reduceEqDiff]) (by simp only [FB, Nat.reduceEqDiff])).mono fun v H' ⟨d', Z, s1, s2, s3, s4, s5⟩ => ⟨d', Y ++ Z, s1, (k2 d' s2 s3).1, (k2 d' s2 s3).2, s4, by rw [s5]; simp⟩
theorem pdq2 [OB] {G X : Heap} {B lim cap n : Nat} {p : Option Addr} {c : Go.Scan.Mk → Go.Scan.Mk → Int} {cl : FuncId} {cs : List Value} (hp : p = some ⟨B, 0, none⟩) (hB : B < G.length) (hl : lim ≤ B) (hn2 : n < 2 ^ 61) (hc : ∀ (mp : Bool) (lim : Nat) (x y : Go.Scan.Mk) (H : Heap) (Q : Value → Heap → Prop), CallR E mp lim cl (.agg (encK x).toArray :: .agg (encK y).toArray :: cs) H Q = Q (.int .i64 (c x y)) H) (hS : SWO (ltC c)) {d : Array Go.Scan.Mk} {a b v h lm m : Nat} {wb wp : Bool} {fr : Nat → Value} {L : List AItem} (hT : ∀ (a b lm : Nat) (wb wp : Bool) (d : Array Go.Scan.Mk) (X : Heap) (fr : Nat → Value), b - a < m → a ≤ b → b ≤ n → d.size = n → Below (ltC c) a b d → lm < 2 ^ 60 → fr 0 = .slice p n cap → fr 1 = .int .i64 (a : Int) → fr 2 = .int .i64 (b : Int) → fr 3 = .int .i64 (lm : Int) → fr 4 = .func (.func cl) #[] cs.toArray → fr 10 = .bool wb → fr 11 = .bool wp → Ret E a81 lim L fr (DH encK G B d ++ X) (Done G B n c a b d X)) (hC : ∀ (a b lm : Nat) (d : Array Go.Scan.Mk) (X : Heap), b - a < m → a ≤ b → b ≤ n → d.size = n → Below (ltC c) a b d → lm < 2 ^ 60 → ∃ d' Y, d'.size = n ∧ PermIn a b d d' ∧ SortedIn (ltC c) a b d' ∧ ∀ Q, CallR E false lim 81 [.slice p n cap, .int .i64 (a : Int), .int .i64 (b : Int), .int .i64 (lm : Int), .func (.func cl) #[] cs.toArray] (DH encK G B d ++ X) Q = Q (.tuple #[]) (DH encK G B d' ++ (X ++ Y))) (hm : b - a ≤ m) (hd : d.size = n) (hb : b ≤ n) (hv : a ≤ v ∧ v < b) (hlm : lm < 2 ^ 60) (hh : h ≤ 2) (hBl : Below (ltC c) a b d) (g0 : fr 0 = .slice p n cap) (g1 : fr 1 = .int .i64 (a : Int)) (g2 : fr 2 = .int .i64 (b : Int)) (g3 : fr 3 = .int .i64 (lm : Int)) (g4 : fr 4 = .func (.func cl) #[] cs.toArray) (g10 : fr 10 = .bool wb) (g11 : fr 11 = .bool wp) (g12 : fr 12 = .int .i64 ((b - a : Nat) : Int)) (g13 : fr 13 = .int .i64 (v : Int)) (g14 : fr 14 = .int .i64 (h : Int)) :
    Ret E a81 lim (.code q2 :: .inBlock 1 :: L) fr (DH encK G B d ++ X) (Done G B n c a b d X) := by
  have h3 := fun d fr hd hBl => pdq3 (X := X) (d := d) (fr := fr) (a := a) (b := b) (v := v) (lm := lm) (wb := wb) (wp := wp) hp hB hl hn2 hc hS hT hC hm hd hb hv hlm hBl
  by_cases c1 : wb = true ∧ wp = true ∧ h = 1
  · obtain ⟨rfl, rfl, rfl⟩ := c1
    have hpi := fun Q => pis_ok (X := X) (cap := cap) (a := a) (b := b) (Q := Q) hp hB hl hn2 hc hd hb (by omega)
    have hps := partialInsertionSort_holds hS d a b (by omega) (by omega) hBl
    generalize partialInsertionSort (ltC c) d a b = r at hpi hps
    obtain ⟨d3, fl⟩ := r
    obtain ⟨P3, S3⟩ := hps
    simp only at hpi P3 S3
    have g14' : fr 14 = .int .i64 1 := g14
    have hd3 : d3.size = n := by rw [P3.1]; exact hd
    cases fl with
    | true =>
      rw [Ret_code q2_eq]; simp only [p5, hdc, tlc, unb, q1, q2, l81_1]
      simp only [n81, r81, g0, g1, g2, g3, g4, g10, g11, g12, g13, g14', hpi, SB, Nat.reduceLT, callee, aOp, ne_eq, Nat.reduceEqDiff, aBin, aUn, if_true, if_false, reduceCtorEq, frame0, place, notTuple, Nat.reduceAdd, Nat.reduceLeDiff, resVal, dite_true, dite_false, Int.reduceEq, Int.reduceLT, Int.reduceLE]
      exact ⟨d3, [], hd3, P3, S3 rfl, rfl, by simp⟩
    | false =>
      have hB3 := hBl.perm (by omega) P3
      have := h3 d3
      rw [Ret_code q2_eq]; simp only [p5, hdc, tlc, unb, q1, q2, l81_1]
      simp only [n81, r81, g0, g1, g2, g3, g4, g10, g11, g12, g13, g14', hpi, SB, Nat.reduceLT, callee, aOp, ne_eq, Nat.reduceEqDiff, aBin, aUn, if_true, if_false, reduceCtorEq, frame0, place, notTuple, Nat.reduceAdd, Nat.reduceLeDiff, resVal, dite_true, dite_false, Int.reduceEq, Int.reduceLT, Int.reduceLE]
      refine Ret.mono (h3 d3 _ hd3 hB3 (by simp only [g0, FB, Nat.reduceEqDiff]) (by simp only [g1, FB, Nat.reduceEqDiff]) (by simp only [g2, FB, Nat.reduceEqDiff]) (by simp only [g3, FB, Nat.reduceEqDiff]) (by simp only [g4, FB, Nat.reduceEqDiff]) (by simp only [g10, FB, Nat.reduceEqDiff]) (by simp only [g11, FB, Nat.reduceEqDiff]) (by simp only [g12, FB, Nat.reduceEqDiff]) (by simp only [g13, FB, Nat.reduceEqDiff])) fun v' H' hq => ?_
      exact Done.perm (Y := []) (by rw [List.append_nil]; exact hq) P3
  · have h3' := h3 d
    rw [Ret_code q2_eq]; simp only [p5, hdc, tlc, unb, q1, q2, l81_1]
    cases wb with
    | false =>
      simp only [n81, r81, g0, g1, g2, g3, g4, g10, g11, g12, g13, g14, SB, Nat.reduceLT, callee, aOp, ne_eq, Nat.reduceEqDiff, aBin, aUn, if_true, if_false, reduceCtorEq, frame0, place, notTuple, Nat.reduceAdd, Nat.reduceLeDiff, resVal, dite_true, dite_false, Int.reduceEq, Int.reduceLT, Int.reduceLE]
      exact h3' _ hd hBl (by simp only [g0, FB, Nat.reduceEqDiff]) (by simp only [g1, FB, Nat.reduceEqDiff]) (by simp only [g2, FB, Nat.reduceEqDiff]) (by simp only [g3, FB, Nat.reduceEqDiff]) (by simp only [g4, FB, Nat.reduceEqDiff]) (by simp only [g10, FB, Nat.reduceEqDiff]) (by simp only [g11, FB, Nat.reduceEqDiff]) (by simp only [g12, FB, Nat.reduceEqDiff]) (by simp only [g13, FB, Nat.reduceEqDiff])
    | true =>
      cases wp with
      | false =>
        simp only [n81, r81, g0, g1, g2, g3, g4, g10, g11, g12, g13, g14, SB, Nat.reduceLT, callee, aOp, ne_eq, Nat.reduceEqDiff, aBin, aUn, if_true, if_false, reduceCtorEq, frame0, place, notTuple, Nat.reduceAdd, Nat.reduceLeDiff, resVal, dite_true, dite_false, Int.reduceEq, Int.reduceLT, Int.reduceLE]
        exact h3' _ hd hBl (by simp only [g0, FB, Nat.reduceEqDiff]) (by simp only [g1, FB, Nat.reduceEqDiff]) (by simp only [g2, FB, Nat.reduceEqDiff]) (by simp only [g3, FB, Nat.reduceEqDiff]) (by simp only [g4, FB, Nat.reduceEqDiff]) (by simp only [g10, FB, Nat.reduceEqDiff]) (by simp only [g11, FB, Nat.reduceEqDiff]) (by simp only [g12, FB, Nat.reduceEqDiff]) (by simp only [g13, FB, Nat.reduceEqDiff])
      | true =>
        have c2 : ¬ (h : Int) = 1 := fun q => c1 ⟨rfl, rfl, by omega⟩
        simp only [n81, r81, g0, g1, g2, g3, g4, g10, g11, g12, g13, g14, c2, SB, Nat.reduceLT, callee, aOp, ne_eq, Nat.reduceEqDiff, aBin, aUn, if_true, if_false, reduceCtorEq, frame0, place, notTuple, Nat.reduceAdd, Nat.reduceLeDiff, resVal, dite_true, dite_false, Int.reduceEq, Int.reduceLT, Int.reduceLE]
        exact h3' _ hd hBl (by simp only [g0, FB, Nat.reduceEqDiff]) (by simp only [g1, FB, Nat.reduceEqDiff]) (by simp only [g2, FB, Nat.reduceEqDiff]) (by simp only [g3, FB, Nat.reduceEqDiff]) (by simp only [g4, FB, Nat.reduceEqDiff]) (by simp only [g10, FB, Nat.reduceEqDiff]) (by simp only [g11, FB, Nat.reduceEqDiff]) (by simp only [g12, FB, Nat.reduceEqDiff]) (by simp only [g13, FB, Nat.reduceEqDiff])
theorem pdq1 [OB] {G X : Heap} {B lim cap n : Nat} {p : Option Addr} {c : Go.Scan.Mk → Go.Scan.Mk → Int} {cl : FuncId} {cs : List Value} (hp : p = some ⟨B, 0, none⟩) (hB : B < G.length) (hl : lim ≤ B) (hn2 : n < 2 ^ 61) (hc : ∀ (mp : Bool) (lim : Nat) (x y : Go.Scan.Mk) (H : Heap) (Q : Value → Heap → Prop), CallR E mp lim cl (.agg (encK x).toArray :: .agg (encK y).toArray :: cs) H Q = Q (.int .i64 (c x y)) H) (hS : SWO (ltC c)) {d : Array Go.Scan.Mk} {a b lm m : Nat} {wb wp : Bool} {fr : Nat → Value} {L : List AItem} (hT : ∀ (a b lm : Nat) (wb wp : Bool) (d : Array Go.Scan.Mk) (X : Heap) (fr : Nat → Value), b - a < m → a ≤ b → b ≤ n → d.size = n → Below (ltC c) a b d → lm < 2 ^ 60 → fr 0 = .slice p n cap → fr 1 = .int .i64 (a : Int) → fr 2 = .int .i64 (b : Int) → fr 3 = .int .i64 (lm : Int) → fr 4 = .func (.func cl) #[] cs.toArray → fr 10 = .bool wb → fr 11 = .bool wp → Ret E a81 lim L fr (DH encK G B d ++ X) (Done G B n c a b d X)) (hC : ∀ (a b lm : Nat) (d : Array Go.Scan.Mk) (X : Heap), b - a < m → a ≤ b → b ≤ n → d.size = n → Below (ltC c) a b d → lm < 2 ^ 60 → ∃ d' Y, d'.size = n ∧ PermIn a b d d' ∧ SortedIn (ltC c) a b d' ∧ ∀ Q, CallR E false lim 81 [.slice p n cap, .int .i64 (a : Int), .int .i64 (b : Int), .int .i64 (lm : Int), .func (.func cl) #[] cs.toArray] (DH encK G B d ++ X) Q = Q (.tuple #[]) (DH encK G B d' ++ (X ++ Y))) (hm : b - a ≤ m) (hd : d.size = n) (hb : b ≤ n) (hab : a + 12 < b) (hlm : lm < 2 ^ 60) (hBl : Below (ltC c) a b d) (g0 : fr 0 = .slice p n cap) (g1 : fr 1 = .int .i64 (a : Int)) (g2 : fr 2 = .int .i64 (b : Int)) (g3 : fr 3 = .int .i64 (lm : Int)) (g4 : fr 4 = .func (.func cl) #[] cs.toArray) (g10 : fr 10 = .bool wb) (g11 : fr 11 = .bool wp) (g12 : fr 12 = .int .i64 ((b - a : Nat) : Int)) :
    Ret E a81 lim (.code q1 :: .inBlock 1 :: L) fr (DH encK G B d ++ X) (Done G B n c a b d X) := by
  obtain ⟨v, h, s, v1, v2, hh, hcho⟩ := cho_ok (X := X) (cap := cap) (lim := lim) hp hB hl hn2 hc hd hb hab
  by_cases c1 : h = 2
  · subst c1
    have hr := fun Q => rev_ok (X := X ++ [.cells false [.int .i64 (s : Int)]]) (cap := cap) (a := a) (b := b) (Q := Q) hp hB hl hn2 hc hd hb (by omega)
    have P2 := reverseRange_holds d a b (by omega) (by omega)
    generalize reverseRange d a b = d2 at hr P2
    have hd2 : d2.size = n := by rw [P2.1]; exact hd
    have hB2 := hBl.perm (by omega) P2
    have h2 := fun fr => pdq2 (X := X ++ [.cells false [.int .i64 (s : Int)]]) (d := d2) (fr := fr) (a := a) (b := b) (v := b - 1 - (v - a)) (h := 1) (lm := lm) (wb := wb) (wp := wp) hp hB hl hn2 hc hS hT hC hm hd2 hb (by omega) hlm (by omega) hB2
    have hw1 : IntKind.i64.wrap ((b : Int) - 1) = ((b - 1 : Nat) : Int) := wrap_int (by omega) (by omega)
    have hw2 : IntKind.i64.wrap ((v : Int) - (a : Int)) = ((v - a : Nat) : Int) := wrap_int (by omega) (by omega)
    have hw3 : IntKind.i64.wrap (((b - 1 : Nat) : Int) - ((v - a : Nat) : Int)) = ((b - 1 - (v - a) : Nat) : Int) := wrap_int (by omega) (by omega)
    have hcho' : ∀ Q, CallR E false lim 90 [.slice p n cap, .int .i64 (a : Int), .int .i64 (b : Int), .func (.func cl) #[] cs.toArray] (DH encK G B d ++ X) Q = Q (.tuple #[.int .i64 (v : Int), .int .i64 2]) (DH encK G B d ++ (X ++ [.cells false [.int .i64 (s : Int)]])) := hcho
    rw [Ret_code q1_eq]; simp only [p6, p7, hdc, tlc, unb, q1, l81_1]
    simp only [n81, r81, g0, g1, g2, g3, g4, g10, g11, g12, hcho', hr, hw1, hw2, hw3, SB, Nat.reduceLT, callee, aOp, ne_eq, Nat.reduceEqDiff, aBin, aUn, if_true, if_false, reduceCtorEq, frame0, place, notTuple, Nat.reduceAdd, Nat.reduceLeDiff, resVal, dite_true, dite_false, Int.reduceEq, Int.reduceLT, Int.reduceLE]
    refine Ret.mono (h2 _ (by simp only [g0, FB, Nat.reduceEqDiff]) (by simp only [g1, FB, Nat.reduceEqDiff]) (by simp only [g2, FB, Nat.reduceEqDiff]) (by simp only [g3, FB, Nat.reduceEqDiff]) (by simp only [g4, FB, Nat.reduceEqDiff]) (by simp only [g10, FB, Nat.reduceEqDiff]) (by simp only [g11, FB, Nat.reduceEqDiff]) (by simp only [g12, FB, Nat.reduceEqDiff]) (by simp only [FB, Nat.reduceEqDiff]) (by simp only [upd_same, upd_ne, ne_eq, Nat.reduceEqDiff, not_false_eq_true]; rfl)) fun v' H' hq => ?_
    exact Done.perm hq P2
  · have c2 : ¬ (h : Int) = 2 := by omega
    have h2 := fun fr => pdq2 (X := X ++ [.cells false [.int .i64 (s : Int)]]) (d := d) (fr := fr) (a := a) (b := b) (v := v) (h := h) (lm := lm) (wb := wb) (wp := wp) hp hB hl hn2 hc hS hT hC hm hd hb (by omega) hlm (by omega) hBl
    rw [Ret_code q1_eq]; simp only [p6, p7, hdc, tlc, unb, q1, l81_1]
    simp only [n81, r81, g0, g1, g2, g3, g4, g10, g11, g12, hcho, c2, SB, Nat.reduceLT, callee, aOp, ne_eq, Nat.reduceEqDiff, aBin, aUn, if_true, if_false, reduceCtorEq, frame0, place, notTuple, Nat.reduceAdd, Nat.reduceLeDiff, resVal, dite_true, dite_false, Int.reduceEq, Int.reduceLT, Int.reduceLE]
    refine Ret.mono (h2 _ (by simp only [g0, FB, Nat.reduceEqDiff]) (by simp only [g1, FB, Nat.reduceEqDiff]) (by simp only [g2, FB, Nat.reduceEqDiff]) (by simp only [g3, FB, Nat.reduceEqDiff]) (by simp only [g4, FB, Nat.reduceEqDiff]) (by simp only [g10, FB, Nat.reduceEqDiff]) (by simp only [g11, FB, Nat.reduceEqDiff]) (by simp only [g12, FB, Nat.reduceEqDiff]) (by simp only [FB, Nat.reduceEqDiff]) (by simp only [FB, Nat.reduceEqDiff])) fun v' H' hq => ?_
    exact Done.perm hq (permIn_refl _ _ _)
theorem pdq_loop [OB] {G X : Heap} {B lim cap n : Nat} {p : Option Addr} {c : Go.Scan.Mk → Go.Scan.Mk → Int} {cl : FuncId} {cs : List Value} (hp : p = some ⟨B, 0, none⟩) (hB : B < G.length) (hl : lim ≤ B) (hn2 : n < 2 ^ 61) (hc : ∀ (mp : Bool) (lim : Nat) (x y : Go.Scan.Mk) (H : Heap) (Q : Value → Heap → Prop), CallR E mp lim cl (.agg (encK x).toArray :: .agg (encK y).toArray :: cs) H Q = Q (.int .i64 (c x y)) H) (hS : SWO (ltC c)) (hn3 : n < 65536) : ∀ (m a b lm : Nat) (wb wp : Bool) (d : Array Go.Scan.Mk) (X : Heap) (fr : Nat → Value), b - a < m → a ≤ b → b ≤ n → d.size = n → Below (ltC c) a b d → lm < 2 ^ 60 → fr 0 = .slice p n cap → fr 1 = .int .i64 (a : Int) → fr 2 = .int .i64 (b : Int) → fr 3 = .int .i64 (lm : Int) → fr 4 = .func (.func cl) #[] cs.toArray → fr 10 = .bool wb → fr 11 = .bool wp →
    Ret E a81 lim (.inLoop l81_1 :: .inBlock 0 :: []) fr (DH encK G B d ++ X) (Done G B n c a b d X) := by
  intro m
  induction m with
  | zero => intro a b lm wb wp d X fr h; omega
  | succ m ih =>
    intro a b lm wb wp d X fr hlt hab hb hd hBl hlm g0 g1 g2 g3 g4 g10 g11
    have hC : ∀ (a b lm : Nat) (d : Array Go.Scan.Mk) (X : Heap), b - a < m → a ≤ b → b ≤ n → d.size = n → Below (ltC c) a b d → lm < 2 ^ 60 → ∃ d' Y, d'.size = n ∧ PermIn a b d d' ∧ SortedIn (ltC c) a b d' ∧ ∀ Q, CallR E false lim 81 [.slice p n cap, .int .i64 (a : Int), .int .i64 (b : Int), .int .i64 (lm : Int), .func (.func cl) #[] cs.toArray] (DH encK G B d ++ X) Q = Q (.tuple #[]) (DH encK G B d' ++ (X ++ Y)) := by
      intro a b lm d X k1 k2 k3 k4 k5 k6
      have key : CallR E false lim 81 [.slice p n cap, .int .i64 (a : Int), .int .i64 (b : Int), .int .i64 (lm : Int), .func (.func cl) #[] cs.toArray] (DH encK G B d ++ X) (Done G B n c a b d X) := by
        rw [CallR_run (E := E) (g := 81) (af := a81) (by simp [E, orc]) e81 rfl rfl]
        rw [b81, c81]
        simp only [n81, r81, SB, Nat.reduceLT, callee, aOp, ne_eq, Nat.reduceEqDiff, aBin, aUn, if_true, if_false, reduceCtorEq, frame0, place, notTuple, Nat.reduceAdd, Nat.reduceLeDiff, resVal, dite_true, dite_false, Int.reduceEq, Int.reduceLT, Int.reduceLE]
        rw [Ret_loop, ← Ret_inLoop]
        exact ih a b lm true true d X _ k1 k2 k3 k4 k5 k6 (by simp only [FB, Nat.reduceEqDiff]) (by simp only [FB, Nat.reduceEqDiff]) (by simp only [FB, Nat.reduceEqDiff]) (by simp only [FB, Nat.reduceEqDiff]) (by simp only [FB, Nat.reduceEqDiff]) (by simp only [FB, Nat.reduceEqDiff]) (by simp only [FB, Nat.reduceEqDiff])
      obtain ⟨k, v, H', hx, d', Y, h1, h2, h3, rfl, rfl⟩ := CallR.one key
      exact ⟨d', Y, h1, h2, h3, fun Q => CallR.det hx⟩
    have h1 := fun d X fr lm hd hBl hab hlm => pdq1 (X := X) (d := d) (fr := fr) (a := a) (b := b) (lm := lm) (wb := wb) (wp := wp) (m := m) (L := .inLoop l81_1 :: .inBlock 0 :: []) hp hB hl hn2 hc hS ih hC (by omega) hd hb hab hlm hBl
    rw [Ret_inLoop]
    generalize (AItem.inLoop l81_1 :: [AItem.inBlock 0]) = L at h1
    rw [Ret_code body_eq]; simp only [p1, p2, p3, p4, hdc, tlc, unb, l81_1]
    have hw1 : IntKind.i64.wrap ((b : Int) - (a : Int)) = ((b - a : Nat) : Int) := wrap_int (by omega) (by omega)
    by_cases c1 : b - a ≤ 12
    · have c1' : ((b - a : Nat) : Int) ≤ 12 := by omega
      have hi := fun Q => ins_ok (X := X) (cap := cap) (a := a) (b := b) (Q := Q) hp hB hl hn2 hc hd hb hab
      obtain ⟨P, S⟩ := insertionSort_holds hS d a b hab (by omega)
      simp only [n81, r81, g0, g1, g2, g3, g4, g10, g11, hw1, c1', hi, SB, Nat.reduceLT, callee, aOp, ne_eq, Nat.reduceEqDiff, aBin, aUn, if_true, if_false, reduceCtorEq, frame0, place, notTuple, Nat.reduceAdd, Nat.reduceLeDiff, resVal, dite_true, dite_false, Int.reduceEq, Int.reduceLT, Int.reduceLE]
      exact ⟨_, [], by rw [P.1]; exact hd, P, S, rfl, by simp⟩
    have c1' : ¬ ((b - a : Nat) : Int) ≤ 12 := by omega
    by_cases c2 : lm = 0
    · have c2' : (lm : Int) = 0 := by omega
      have hi := fun Q => heap_ok (X := X) (cap := cap) (a := a) (b := b) (Q := Q) hp hB hl hn2 hc hd hb hab
      obtain ⟨P, S⟩ := heapSort_holds hS d a b hab (by omega)
      simp only [n81, r81, g0, g1, g2, g3, g4, g10, g11, hw1, c1', c2', hi, SB, Nat.reduceLT, callee, aOp, ne_eq, Nat.reduceEqDiff, aBin, aUn, if_true, if_false, reduceCtorEq, frame0, place, notTuple, Nat.reduceAdd, Nat.reduceLeDiff, resVal, dite_true, dite_false, Int.reduceEq, Int.reduceLT, Int.reduceLE]
      exact ⟨_, [], by rw [P.1]; exact hd, P, S, rfl, by simp⟩
    have c2' : ¬ (lm : Int) = 0 := by omega
    cases wb with
    | true =>
      simp only [n81, r81, g0, g1, g2, g3, g4, g10, g11, hw1, c1', c2', SB, Nat.reduceLT, callee, aOp, ne_eq, Nat.reduceEqDiff, aBin, aUn, if_true, if_false, reduceCtorEq, frame0, place, notTuple, Nat.reduceAdd, Nat.reduceLeDiff, resVal, dite_true, dite_false, Int.reduceEq, Int.reduceLT, Int.reduceLE]
      exact h1 d X _ lm hd hBl (by omega) hlm (by simp only [g0, FB, Nat.reduceEqDiff]) (by simp only [g1, FB, Nat.reduceEqDiff]) (by simp only [g2, FB, Nat.reduceEqDiff]) (by simp only [g3, FB, Nat.reduceEqDiff]) (by simp only [g4, FB, Nat.reduceEqDiff]) (by simp only [g10, FB, Nat.reduceEqDiff]) (by simp only [g11, FB, Nat.reduceEqDiff]) (by simp only [FB, Nat.reduceEqDiff])
    | false =>
      obtain ⟨d1, s, hd1, P1, hbr⟩ := brk_ok (X := X) (cap := cap) (lim := lim) hp hB hl hn2 hc hd hb (show a + 12 < b by omega) hn3
      have hw2 : IntKind.i64.wrap ((lm : Int) - 1) = ((lm - 1 : Nat) : Int) := wrap_int (by omega) (by omega)
      simp only [n81, r81, g0, g1, g2, g3, g4, g10, g11, hw1, c1', c2', hbr, hw2, SB, Nat.reduceLT, callee, aOp, ne_eq, Nat.reduceEqDiff, aBin, aUn, if_true, if_false, reduceCtorEq, frame0, place, notTuple, Nat.reduceAdd, Nat.reduceLeDiff, resVal, dite_true, dite_false, Int.reduceEq, Int.reduceLT, Int.reduceLE]
      refine Ret.mono (h1 d1 (X ++ [.cells false [.int .u64 s]]) _ (lm - 1) hd1 (hBl.perm (by omega) P1) (by omega) (by omega) (by simp only [g0, FB, Nat.reduceEqDiff]) (by simp only [g1, FB, Nat.reduceEqDiff]) (by simp only [g2, FB, Nat.reduceEqDiff]) (by simp only [FB, Nat.reduceEqDiff]) (by simp only [g4, FB, Nat.reduceEqDiff]) (by simp only [g10, FB, Nat.reduceEqDiff]) (by simp only [g11, FB, Nat.reduceEqDiff]) (by simp only [FB, Nat.reduceEqDiff])) fun v' H' hq => ?_
      exact Done.perm hq P1
theorem len0_ok [OB] {mp : Bool} {lim : Nat} {H : Heap} {Q : Value → Heap → Prop} : CallR E mp lim 60 [.int .u64 0] H Q = Q (.int .i64 0) H := by
  have key : ∀ (mp : Bool) (lim : Nat) (H : Heap) (Q : Value → Heap → Prop), CallR E mp lim 78 [.int .u64 0] H Q = Q (.int .i64 0) H := by
    intro mp lim H Q
    refine pc (by decide) e78 rfl rfl ?_
    rw [b78, c78]
    have w2 : IntKind.u8.wrap 0 = 0 := by decide
    have w3 : IntKind.i64.wrap 0 = 0 := by decide
    simp only [n78, r78, w2, w3, Int.toNat_zero, List.getElem?_cons_zero, Option.map_some, UInt8.toNat_zero, UInt8.toNat_ofNat, Nat.reduceMod, Nat.reducePow, Int.cast_ofNat_Int, Int.add_zero, SB, Nat.reduceLT, callee, aOp, ne_eq, Nat.reduceEqDiff, aBin, aUn, if_true, if_false, reduceCtorEq, frame0, place, notTuple, Nat.reduceAdd, Nat.reduceLeDiff, resVal, dite_true, dite_false, Int.reduceEq, Int.reduceLT, Int.reduceLE]
  refine pc (by decide) e60 rfl rfl ?_
  rw [b60, c60]
  simp only [n60, r60, key, SB, Nat.reduceLT, callee, aOp, ne_eq, Nat.reduceEqDiff, aBin, aUn, if_true, if_false, reduceCtorEq, frame0, place, notTuple, Nat.reduceAdd, Nat.reduceLeDiff, resVal, dite_true, dite_false, Int.reduceEq, Int.reduceLT, Int.reduceLE]
theorem pdq_call [OB] {G X : Heap} {B lim cap n : Nat} {p : Option Addr} {c : Go.Scan.Mk → Go.Scan.Mk → Int} {cl : FuncId} {cs : List Value} (hp : p = some ⟨B, 0, none⟩) (hB : B < G.length) (hl : lim ≤ B) (hn2 : n < 2 ^ 61) (hc : ∀ (mp : Bool) (lim : Nat) (x y : Go.Scan.Mk) (H : Heap) (Q : Value → Heap → Prop), CallR E mp lim cl (.agg (encK x).toArray :: .agg (encK y).toArray :: cs) H Q = Q (.int .i64 (c x y)) H) (hS : SWO (ltC c)) (hn3 : n < 65536) {d : Array Go.Scan.Mk} {lm : Nat} (hd : d.size = n) (hlm : lm < 2 ^ 60) :
    ∃ d' Y, d'.size = n ∧ PermIn 0 n d d' ∧ SortedIn (ltC c) 0 n d' ∧ ∀ Q, CallR E false lim 81 [.slice p n cap, .int .i64 0, .int .i64 (n : Int), .int .i64 (lm : Int), .func (.func cl) #[] cs.toArray] (DH encK G B d ++ X) Q = Q (.tuple #[]) (DH encK G B d' ++ (X ++ Y)) := by
  have hBl : Below (ltC c) 0 n d := by simp [Below]
  have key : CallR E false lim 81 [.slice p n cap, .int .i64 0, .int .i64 (n : Int), .int .i64 (lm : Int), .func (.func cl) #[] cs.toArray] (DH encK G B d ++ X) (Done G B n c 0 n d X) := by
    rw [CallR_run (E := E) (g := 81) (af := a81) (by simp [E, orc]) e81 rfl rfl]
    rw [b81, c81]
    simp only [n81, r81, SB, Nat.reduceLT, callee, aOp, ne_eq, Nat.reduceEqDiff, aBin, aUn, if_true, if_false, reduceCtorEq, frame0, place, notTuple, Nat.reduceAdd, Nat.reduceLeDiff, resVal, dite_true, dite_false, Int.reduceEq, Int.reduceLT, Int.reduceLE]
    rw [Ret_loop, ← Ret_inLoop]
    exact pdq_loop (X := X) (cap := cap) hp hB hl hn2 hc hS hn3 (n + 1) 0 n lm true true d X _ (by omega) (by omega) (by omega) hd hBl hlm (by simp only [FB, Nat.reduceEqDiff]) (by simp only [Int.cast_ofNat_Int, FB, Nat.reduceEqDiff]) (by simp only [FB, Nat.reduceEqDiff]) (by simp only [FB, Nat.reduceEqDiff]) (by simp only [FB, Nat.reduceEqDiff]) (by simp only [FB, Nat.reduceEqDiff]) (by simp only [FB, Nat.reduceEqDiff])
  obtain ⟨k, v, H', hx, d', Y, h1, h2, h3, rfl, rfl⟩ := CallR.one key
  exact ⟨d', Y, h1, h2, h3, fun Q => CallR.det hx⟩
theorem sort_ok [OB] {G X : Heap} {B lim cap n : Nat} {p : Option Addr} {c : Go.Scan.Mk → Go.Scan.Mk → Int} {cl : FuncId} {cs : List Value} (hp : p = some ⟨B, 0, none⟩) (hB : B < G.length) (hl : lim ≤ B) (hn2 : n < 2 ^ 61) (hc : ∀ (mp : Bool) (lim : Nat) (x y : Go.Scan.Mk) (H : Heap) (Q : Value → Heap → Prop), CallR E mp lim cl (.agg (encK x).toArray :: .agg (encK y).toArray :: cs) H Q = Q (.int .i64 (c x y)) H) (hS : SWO (ltC c)) (hn3 : n < 65536) {d : Array Go.Scan.Mk} (hd : d.size = n) :
    ∃ d' Y, d'.size = n ∧ PermIn 0 n d d' ∧ SortedIn (ltC c) 0 n d' ∧ ∀ Q, CallR E false lim 63 [.slice p n cap, .func (.func cl) #[] cs.toArray] (DH encK G B d ++ X) Q = Q (.tuple #[]) (DH encK G B d' ++ (X ++ Y)) := by
  have key : CallR E false lim 63 [.slice p n cap, .func (.func cl) #[] cs.toArray] (DH encK G B d ++ X) (Done G B n c 0 n d X) := by
    rw [CallR_run (E := E) (g := 63) (af := a63) (by simp [E, orc]) e63 rfl rfl]
    rw [b63, c63]
    have w1 : IntKind.u64.wrap (n : Int) = (n : Int) := by rw [wrap64]; omega
    by_cases h0 : n = 0
    · subst h0
      obtain ⟨d', Y, k1, k2, k3, k4⟩ := pdq_call (X := X) (lm := 0) (cap := cap) hp hB hl hn2 hc hS hn3 hd (by omega)
      have k4' : ∀ Q, CallR E false lim 81 [.slice p 0 cap, .int .i64 0, .int .i64 0, .int .i64 0, .func (.func cl) #[] cs.toArray] (DH encK G B d ++ X) Q = Q (.tuple #[]) (DH encK G B d' ++ (X ++ Y)) := k4
      have w0 : IntKind.u64.wrap 0 = 0 := by decide
      simp only [n63, r63, w0, len0_ok, k4', SB, Nat.reduceLT, callee, aOp, ne_eq, Nat.reduceEqDiff, aBin, aUn, if_true, if_false, reduceCtorEq, frame0, place, notTuple, Nat.reduceAdd, Nat.reduceLeDiff, resVal, dite_true, dite_false, Int.reduceEq, Int.reduceLT, Int.reduceLE]
      exact ⟨_, _, k1, k2, k3, rfl, rfl⟩
    · obtain ⟨L, l1, l2, l3, l4⟩ := len_ok (x := n) hn3 (by omega)
      obtain ⟨d', Y, k1, k2, k3, k4⟩ := pdq_call (X := X) (lm := L) (cap := cap) hp hB hl hn2 hc hS hn3 hd (by omega)
      simp only [n63, r63, w1, l4, k4, SB, Nat.reduceLT, callee, aOp, ne_eq, Nat.reduceEqDiff, aBin, aUn, if_true, if_false, reduceCtorEq, frame0, place, notTuple, Nat.reduceAdd, Nat.reduceLeDiff, resVal, dite_true, dite_false, Int.reduceEq, Int.reduceLT, Int.reduceLE]
      exact ⟨_, _, k1, k2, k3, rfl, rfl⟩
  obtain ⟨k, v, H', hx, d', Y, h1, h2, h3, rfl, rfl⟩ := CallR.one key
  exact ⟨d', Y, h1, h2, h3, fun Q => CallR.det hx⟩
theorem sort_nil [OB] {lim cap : Nat} {p : Option Addr} {cl : FuncId} {cs : List Value} {H : Heap} {Q : Value → Heap → Prop} : CallR E false lim 63 [.slice p 0 cap, .func (.func cl) #[] cs.toArray] H Q = Q (.tuple #[]) H := by
  have hi : ∀ Q, CallR E false lim 87 [.slice p 0 cap, .int .i64 0, .int .i64 0, .func (.func cl) #[] cs.toArray] H Q = Q (.tuple #[]) H := by
    intro Q
    refine runs (by decide) e87 rfl ?_
    rw [b87, c87]
    have w1 : IntKind.i64.wrap 1 = 1 := by decide
    simp only [n87, r87, w1, Int.zero_add, Int.reduceLT, decide_false, SB, Nat.reduceLT, callee, aOp, ne_eq, Nat.reduceEqDiff, aBin, aUn, if_true, if_false, reduceCtorEq, frame0, place, notTuple, Nat.reduceAdd, Nat.reduceLeDiff, resVal, dite_true, dite_false, Int.reduceEq, Int.reduceLT, Int.reduceLE]
    rw [Ret_loop, Ret_code l87_2.eq_1]
    simp only [n87, r87, SB, Nat.reduceLT, callee, aOp, ne_eq, Nat.reduceEqDiff, aBin, aUn, if_true, if_false, reduceCtorEq, frame0, place, notTuple, Nat.reduceAdd, Nat.reduceLeDiff, resVal, dite_true, dite_false, Int.reduceEq, Int.reduceLT, Int.reduceLE]
  have hq : ∀ Q, CallR E false lim 81 [.slice p 0 cap, .int .i64 0, .int .i64 0, .int .i64 0, .func (.func cl) #[] cs.toArray] H Q = Q (.tuple #[]) H := by
    intro Q
    refine runs (by decide) e81 rfl ?_
    rw [b81, c81]
    simp only [n81, r81, SB, Nat.reduceLT, callee, aOp, ne_eq, Nat.reduceEqDiff, aBin, aUn, if_true, if_false, reduceCtorEq, frame0, place, notTuple, Nat.reduceAdd, Nat.reduceLeDiff, resVal, dite_true, dite_false, Int.reduceEq, Int.reduceLT, Int.reduceLE]
    rw [Ret_loop, Ret_code body_eq]
    simp only [p1, p2, hdc, tlc, unb, l81_1]
    have w1 : IntKind.i64.wrap 0 = 0 := by decide
    simp only [n81, r81, w1, hi, Int.sub_self, SB, Nat.reduceLT, callee, aOp, ne_eq, Nat.reduceEqDiff, aBin, aUn, if_true, if_false, reduceCtorEq, frame0, place, notTuple, Nat.reduceAdd, Nat.reduceLeDiff, resVal, dite_true, dite_false, Int.reduceEq, Int.reduceLT, Int.reduceLE]
  refine runs (by decide) e63 rfl ?_
  rw [b63, c63]
  have w0 : IntKind.u64.wrap 0 = 0 := by decide
  simp only [n63, r63, w0, len0_ok, hq, SB, Nat.reduceLT, callee, aOp, ne_eq, Nat.reduceEqDiff, aBin, aUn, if_true, if_false, reduceCtorEq, frame0, place, notTuple, Nat.reduceAdd, Nat.reduceLeDiff, resVal, dite_true, dite_false, Int.reduceEq, Int.reduceLT, Int.reduceLE]
end Go.Proofs.Ytkppjkkkdpcgiaa.Fn.SM

namespace Go.Proofs.Ytkppjkkkdpcgiaa.Fn
open Go.AM Go.AM.Sym Go.Scan Go.Sort
set_option maxRecDepth 100000
set_option linter.unusedVariables false
set_option linter.unusedSimpArgs false
set_option maxHeartbeats 4000000
theorem swo_lex {α : Type} {k : α → List Int} {n : Nat} (hn : ∀ x, (k x).length = n) : SWO (fun x y : α => decide (lexC (k x) (k y) < 0)) := by
  have eqL : ∀ x y : α, (k x).length = (k y).length := fun x y => by rw [hn, hn]
  refine ⟨fun x => ?_, fun x y z h1 h2 => ?_, fun x y z h1 h2 => ?_⟩
  · rw [lexC_self]; rfl
  · simp only [decide_eq_true_eq] at *
    have h3 := lexC_trans (k x) (k y) (k z) (eqL x y) (eqL y z) (by omega) (by omega)
    rcases lexC_val (k x) (k z) with v | v | v
    · omega
    · have e := lexC_eq _ _ (eqL x z) v
      rw [← e, lexC_neg (k x) (k y)] at h2; omega
    · omega
  · simp only [decide_eq_false_iff_not] at *
    have a1 := lexC_neg (k x) (k y)
    have a2 := lexC_neg (k y) (k z)
    have a3 := lexC_neg (k x) (k z)
    have h3 := lexC_trans (k z) (k y) (k x) (eqL z y) (eqL y x) (by omega) (by omega)
    omega
theorem perm_list {α : Type} [Inhabited α] {n : Nat} {d d' : Array α} (hd : d.size = n) (h : PermIn 0 n d d') : d'.toList.Perm d.toList := by
  obtain ⟨h1, h2, h3⟩ := h
  subst hd
  rw [Array.extract_size] at h3
  rw [← h1, Array.extract_size] at h3
  exact h3
theorem sorted_list {α : Type} [Inhabited α] {k : α → List Int} {n : Nat} {d : Array α} (hd : d.size = n) (h : SortedIn (fun x y : α => decide (lexC (k x) (k y) < 0)) 0 n d) : Ordered k d.toList := by
  unfold Ordered
  rw [List.pairwise_iff_getElem]
  intro i j hi hj hij
  have h1 := h i j (Nat.zero_le _) hij (by simpa [hd] using hj)
  have e1 : d[i]! = d.toList[i] := by rw [getElem!_pos d i (by simpa using hi)]; simp
  have e2 : d[j]! = d.toList[j] := by rw [getElem!_pos d j (by simpa using hj)]; simp
  rw [e1, e2] at h1
  simp only [decide_eq_false_iff_not] at h1
  rw [lexC_neg (k d.toList[j]) (k d.toList[i])]; omega
theorem DH_same {α : Type} {enc : α → List Value} {G : Heap} {B : Nat} {l : List α} (hB : hget G B = .cells false (l.flatMap enc)) : DH enc G B l.toArray = G := by
  have hl := hget_alive hB
  unfold DH
  apply List.ext_getElem
  · simp
  intro i h1 h2
  rw [List.getElem_set]
  split
  · rename_i e; subst e
    unfold hget at hB
    rw [List.getD_eq_getElem?_getD, List.getElem?_eq_getElem hl] at hB
    exact hB.symm
  · rfl
theorem sortM_ok [OB] {lim R cap : Nat} {l : List Mk} {H : Heap} (hR : hget H R = .cells false (l.flatMap encK)) (hl : lim ≤ R) (hn : l.length < 65536) :
    ∃ H1, (∀ Q : Value → Heap → Prop, CallR Ef false lim 63 [.slice (some ⟨R, 0, none⟩) l.length cap, .func (.func 51) #[] #[]] (H ++ []) Q = Q (.tuple #[]) (H1 ++ [])) ∧ hget H1 R = .cells false ((sortB keysM l).flatMap encK) ∧ Chg [R] H H1 := by
  have hRl := hget_alive hR
  obtain ⟨d, Y, h1, h2, h3, h4⟩ := SM.sort_ok (X := []) (G := H) (B := R) (lim := lim) (cap := cap) (n := l.length) (p := some ⟨R, 0, none⟩) (c := fun a b => lexC (keysM a) (keysM b)) (cl := 51) (cs := []) rfl hRl hl (by omega) (fun mp lim x y H Q => compM_ok (mp := mp) (lim := lim) (H := H) (Q := Q)) (swo_lex keysM_len) (by omega) (d := l.toArray) (by simp)
  rw [DH_same hR] at h4
  have hp : d.toList.Perm l := perm_list (d := l.toArray) (n := l.length) (by simp) h2
  have hs : d.toList = sortB keysM l := sortB_uniq keysM_len keysM_inj (sorted_list h1 h3) hp
  refine ⟨DH encK H R d ++ Y, fun Q => CallR.eqF' ?_, ?_, ?_⟩
  · rw [h4]; exact ⟨rfl, by simp⟩
  · rw [DH_get hRl, hs]
  · refine ⟨by simp [DH], fun j hj hA => ?_⟩
    rw [hget_old (by rw [DH_len]; exact hj)]
    exact hget_set_ne (by simpa using hA)
theorem sortE_ok [OB] {lim R cap : Nat} {l : List Ev} {H : Heap} (hR : hget H R = .cells false (l.flatMap encE)) (hl : lim ≤ R) (hn : l.length < 65536) :
    ∃ H1, (∀ Q : Value → Heap → Prop, CallR Ef false lim 47 [.slice (some ⟨R, 0, none⟩) l.length cap, .func (.func 48) #[] #[]] (H ++ []) Q = Q (.tuple #[]) (H1 ++ [])) ∧ hget H1 R = .cells false ((sortB keysE l).flatMap encE) ∧ Chg [R] H H1 := by
  have hRl := hget_alive hR
  obtain ⟨d, Y, h1, h2, h3, h4⟩ := SE.sort_ok (X := []) (G := H) (B := R) (lim := lim) (cap := cap) (n := l.length) (p := some ⟨R, 0, none⟩) (c := fun a b => lexC (keysE a) (keysE b)) (cl := 48) (cs := []) rfl hRl hl (by omega) (fun mp lim x y H Q => compE_ok (mp := mp) (lim := lim) (H := H) (Q := Q)) (swo_lex keysE_len) (by omega) (d := l.toArray) (by simp)
  rw [DH_same hR] at h4
  have hp : d.toList.Perm l := perm_list (d := l.toArray) (n := l.length) (by simp) h2
  have hs : d.toList = sortB keysE l := sortB_uniq keysE_len keysE_inj (sorted_list h1 h3) hp
  refine ⟨DH encE H R d ++ Y, fun Q => CallR.eqF' ?_, ?_, ?_⟩
  · rw [h4]; exact ⟨rfl, by simp⟩
  · rw [DH_get hRl, hs]
  · refine ⟨by simp [DH], fun j hj hA => ?_⟩
    rw [hget_old (by rw [DH_len]; exact hj)]
    exact hget_set_ne (by simpa using hA)
theorem sortM_nil [OB] {lim cap : Nat} {p : Option Addr} {H : Heap} {Q : Value → Heap → Prop} : CallR Ef false lim 63 [.slice p 0 cap, .func (.func 51) #[] #[]] H Q = Q (.tuple #[]) H :=
  CallR.eqF (by rw [SM.sort_nil (cs := [])]; exact ⟨rfl, rfl⟩)
theorem sorted_ok [OB] {lim Bm R : Nat} {es : Ess} {H : Heap} {Q : Value → Heap → Prop} (hl : lim ≤ H.length) (h1 : hget H Bm = .cells false [.map (some R)]) (hm : hget H R = .map (encM kM vK es)) (hn : es.length < 65536)
    (hQ : ∀ G p cap, Own H.length G encK 3 p cap (sortB keysM (es.map (·.2))) → Chg [] H G → Q (.slice p es.length cap) (G ++ [])) :
    CallR Ef false lim 49 [.func (.func 64) #[] #[.pointer (some ⟨Bm, 0, none⟩)], .func (.func 51) #[] #[]] H Q := by
  have hcoll : ∀ (Q : Value → Heap → Prop), (∀ G p cap l, l.Perm (es.map (·.2)) → Own H.length G encK 3 p cap l → Chg [] H G → Q (.slice p l.length cap) (G ++ [])) →
      CallR Ef false lim 62 [.func (.func 64) #[] #[.pointer (some ⟨Bm, 0, none⟩)]] H Q := by
    intro Q hQ
    refine runsF (by decide) e62 rfl ?_
    rw [b62, c62]
    simp only [n62, r62, SB, Nat.reduceLT, callee, aOp, ne_eq, Nat.reduceEqDiff, aBin, aUn, if_true, if_false, reduceCtorEq, frame0, place, notTuple, Nat.reduceAdd, Nat.reduceLeDiff, resVal, dite_true, dite_false, Int.reduceEq, Int.reduceLT, Int.reduceLE]
    rw [List.append_nil]
    refine appseq_ok hl h1 hm (by omega) fun G p cap l h1 h2 h3 => ?_
    refine Ret_pad ?_
    simp only [n62, r62, SB, Nat.reduceLT, callee, aOp, ne_eq, Nat.reduceEqDiff, aBin, aUn, if_true, if_false, reduceCtorEq, frame0, place, notTuple, Nat.reduceAdd, Nat.reduceLeDiff, resVal, dite_true, dite_false, Int.reduceEq, Int.reduceLT, Int.reduceLE]
    exact hQ G p cap l h1 h2 h3
  refine runsF (by decide) e49 rfl ?_
  rw [b49, c49]
  simp only [n49, r49, SB, Nat.reduceLT, callee, aOp, ne_eq, Nat.reduceEqDiff, aBin, aUn, if_true, if_false, reduceCtorEq, frame0, place, notTuple, Nat.reduceAdd, Nat.reduceLeDiff, resVal, dite_true, dite_false, Int.reduceEq, Int.reduceLT, Int.reduceLE]
  rw [List.append_nil]
  refine hcoll _ fun G p cap l hp hO hC => ?_
  have hll : l.length = es.length := by have := hp.length_eq; simpa using this
  have hs : sortB keysM (es.map (·.2)) = sortB keysM l := (sortB_congr keysM_len keysM_inj hp).symm
  rw [hs] at hQ
  rcases hO with ⟨h0, rfl, rfl⟩ | ⟨R', rfl, rfl, hR, hRl⟩
  · subst h0
    have hsn := fun X (Q : Value → Heap → Prop) => sortM_nil (lim := lim) (cap := 0) (p := none) (H := G ++ X) (Q := Q)
    have := hQ G none 0 (.inl ⟨rfl, rfl, rfl⟩) hC
    rw [← hll] at this
    simp only [n49, r49, hsn, List.length_nil, SB, Nat.reduceLT, callee, aOp, ne_eq, Nat.reduceEqDiff, aBin, aUn, if_true, if_false, reduceCtorEq, frame0, place, notTuple, Nat.reduceAdd, Nat.reduceLeDiff, resVal, dite_true, dite_false, Int.reduceEq, Int.reduceLT, Int.reduceLE]
    exact this
  · obtain ⟨G1, g1, g2, g3⟩ := sortM_ok (lim := lim) (cap := loose 3) hR (by omega) (by omega)
    simp only [n49, r49, g1, SB, Nat.reduceLT, callee, aOp, ne_eq, Nat.reduceEqDiff, aBin, aUn, if_true, if_false, reduceCtorEq, frame0, place, notTuple, Nat.reduceAdd, Nat.reduceLeDiff, resVal, dite_true, dite_false, Int.reduceEq, Int.reduceLT, Int.reduceLE]
    rw [hll]
    exact hQ G1 _ _ (.inr ⟨R', rfl, rfl, g2, hRl⟩) ⟨by have := hC.len; have := g3.len; omega, fun j hj _ => by
      rw [g3.other j (by have := hC.len; omega) (by simp; omega), hC.other j hj (by simp)]⟩
end Go.Proofs.Ytkppjkkkdpcgiaa.Fn

namespace Go.Scan
open Go.AM Go.AM.Sym
set_option maxRecDepth 100000
set_option linter.unusedVariables false
set_option linter.unusedSimpArgs false
theorem cptGo_snoc (x : Mk) : ∀ (l : List Mk) (p : Mk), cptGo p (l ++ [x]) = cptGo p l ++ (if sameM x ((p :: l).getLast (by simp)) then [] else [x])
  | [], p => by
    by_cases h : sameM x p
    · simp [cptGo, h]
    · simp [cptGo, h]
  | m :: l, p => by
    rw [List.cons_append, cptGo, cptGo_snoc x l m, cptGo]
    have e : (p :: m :: l).getLast (by simp) = (m :: l).getLast (by simp) := List.getLast_cons (by simp)
    rw [e]
    split
    · rfl
    · rfl
theorem compact_take {l : List Mk} {m : Nat} (h0 : 1 ≤ m) (h1 : m < l.length) : compactN (l.take (m + 1)) = compactN (l.take m) ++ (if sameM (gt l m) (gt l (m - 1)) then [] else [gt l m]) := by
  cases l with
  | nil => simp at h1
  | cons p l =>
    obtain ⟨m, rfl⟩ : ∃ k, m = k + 1 := ⟨m - 1, by omega⟩
    have hm : m < l.length := by simpa using h1
    have e1 : (p :: l).take (m + 1 + 1) = p :: (l.take m ++ [l[m]]) := by
      rw [List.take_succ_cons, List.take_succ_eq_append_getElem hm]
    have e2 : (p :: l).take (m + 1) = p :: l.take m := List.take_succ_cons ..
    rw [e1, e2]
    show p :: cptGo p (l.take m ++ [l[m]]) = (p :: cptGo p (l.take m)) ++ _
    rw [cptGo_snoc, gt_cons_succ, gt_lt hm, Nat.add_sub_cancel, List.cons_append]
    have e3 : (p :: l.take m).getLast (by simp) = gt (p :: l) m := by
      rw [List.getLast_eq_getElem, gt_lt (by simp; omega)]
      simp only [List.length_cons, List.length_take, Nat.min_eq_left (Nat.le_of_lt hm), Nat.add_sub_cancel]
      cases m with
      | zero => rfl
      | succ k => simp
    rw [e3]
theorem compact_self {l : List Mk} : ∀ m, m ≤ l.length → (∀ j, 1 ≤ j → j < m → ¬ sameM (gt l j) (gt l (j - 1))) → compactN (l.take m) = l.take m
  | 0, _, _ => by rw [List.take_zero]; rfl
  | 1, h, _ => by
    cases l with
    | nil => simp at h
    | cons p l => rfl
  | m + 2, h, hs => by
    rw [compact_take (m := m + 1) (by omega) (by omega), compact_self (m + 1) (by omega) fun j h1 h2 => hs j h1 (by omega), if_neg (hs (m + 1) (by omega) (by omega)), List.take_succ_eq_append_getElem (i := m + 1) (by omega), gt_lt]
end Go.Scan

namespace Go.Proofs.Ytkppjkkkdpcgiaa.Fn
open Go.AM Go.AM.Sym Go.Scan Go.Sort
set_option maxRecDepth 100000
set_option linter.unusedVariables false
set_option linter.unusedSimpArgs false
set_option maxHeartbeats 4000000
theorem slice_from {R n lo : Nat} (h : lo ≤ n) (hn : n < 2 ^ 62) : sliceV 3 (.slice (some ⟨R, 0, none⟩) n (loose 3)) (some (.int .i64 (lo : Int))) none none = some (.slice (some ⟨R, lo * 3, none⟩) (n - lo) (loose 3)) := by
  have hb : bounds unV n n ((some (Value.int .i64 (lo : Int))).map .const) ((none : Option Value).map .const) none = some (lo, n, n) := by
    rw [bounds_V]
    exact (bv_100 (by omega) (by omega)).trans (by rw [Int.toNat_natCast])
  simp only [Option.map_some, Option.map_none] at hb
  simp only [sliceV, aSliceS, Option.map_some, Option.map_none, if_true, hb]
  rw [addr_add, Nat.zero_add]
theorem slice_to {R n hi : Nat} (h : hi ≤ n) (hn : n < 2 ^ 62) : sliceV 3 (.slice (some ⟨R, 0, none⟩) n (loose 3)) none (some (.int .i64 (hi : Int))) none = some (.slice (some ⟨R, 0, none⟩) hi (loose 3)) := by
  have hb : bounds unV n n ((none : Option Value).map .const) ((some (Value.int .i64 (hi : Int))).map .const) none = some (0, hi, n) := by
    rw [bounds_V]
    exact (bv_010 (by omega) (by omega)).trans (by rw [Int.toNat_natCast])
  simp only [Option.map_some, Option.map_none] at hb
  simp only [sliceV, aSliceS, Option.map_some, Option.map_none, if_true, hb]
  rw [addr_add, Nat.zero_mul, Nat.sub_zero]
theorem zeros_eq {m : Nat} : ((List.range (m * 3)).map fun j => [Value.int .i64 0, .int .i64 0, .int .i64 0].getD (j % 3) undef) = (List.replicate m zeroM).flatMap encK := by
  have e : (List.replicate m zeroM).flatMap encK = List.replicate (m * 3) (.int .i64 0) := by
    induction m with
    | zero => rfl
    | succ m ih =>
      rw [List.replicate_succ, List.flatMap_cons, ih, show (m + 1) * 3 = m * 3 + 1 + 1 + 1 by omega, List.replicate_succ, List.replicate_succ, List.replicate_succ]
      rfl
  rw [e, List.eq_replicate_iff]
  refine ⟨by simp, fun v hv => ?_⟩
  obtain ⟨j, _, rfl⟩ := List.mem_map.mp hv
  have : j % 3 < 3 := Nat.mod_lt _ (by decide)
  generalize j % 3 = k at this
  match k, this with
  | 0, _ => rfl
  | 1, _ => rfl
  | 2, _ => rfl
theorem clear_cells {d : List Mk} {k : Nat} (hk : k ≤ d.length) : setAll (d.flatMap encK) (k * 3) ((List.replicate (d.length - k) zeroM).flatMap encK) = (d.take k ++ List.replicate (d.length - k) zeroM).flatMap encK := by
  have h1 : (d.take k).flatMap encK ++ (d.drop k).flatMap encK ++ [] = d.flatMap encK := by rw [List.append_nil, ← List.flatMap_append, List.take_append_drop]
  have h2 : ((d.take k).flatMap encK).length = k * 3 := by rw [flat_len encK_len, List.length_take, Nat.min_eq_left hk]
  have h3 : ((List.replicate (d.length - k) zeroM).flatMap encK).length = ((d.drop k).flatMap encK).length := by rw [flat_len encK_len, flat_len encK_len]; simp
  rw [← h1, ← h2, setAll_mid _ _ _ _ h3, List.append_nil, List.flatMap_append]
theorem compact_ok [OB] {lim R : Nat} {l : List Mk} {H : Heap} {Q : Value → Heap → Prop} (hR : hget H R = .cells false (l.flatMap encK)) (hl : lim ≤ R) (hn : l.length < 65536)
    (hQ : ∀ G, Sl G encK 3 (some ⟨R, 0, none⟩) (compactN l) → Chg [R] H G → Q (.slice (some ⟨R, 0, none⟩) (compactN l).length (loose 3)) (G ++ [])) :
    CallR E false lim 54 [.slice (some ⟨R, 0, none⟩) l.length (loose 3), .func (.func 55) #[] #[]] H Q := by
  have hRl := hget_alive hR
  refine runs' (by decide) e54 rfl ?_
  rw [b54, c54]
  have done : compactN l = l → Q (.slice (some ⟨R, 0, none⟩) l.length (loose 3)) (H ++ []) := fun he => by
    have := hQ H (by rw [he]; exact Sl.row encK_len hR) (Chg.refl)
    rwa [he] at this
  by_cases h2 : l.length < 2
  · have hc : (l.length : Int) < 2 := by omega
    simp only [n54, r54, hc, SB, Nat.reduceLT, callee, aOp, ne_eq, Nat.reduceEqDiff, aBin, aUn, if_true, if_false, reduceCtorEq, frame0, place, notTuple, Nat.reduceAdd, Nat.reduceLeDiff, resVal, dite_true, dite_false, Int.reduceEq, Int.reduceLT, Int.reduceLE]
    refine done ?_
    match l, h2 with
    | [], _ => rfl
    | [_], _ => rfl
  have hc : ¬ (l.length : Int) < 2 := by omega
  simp only [n54, r54, hc, SB, Nat.reduceLT, callee, aOp, ne_eq, Nat.reduceEqDiff, aBin, aUn, if_true, if_false, reduceCtorEq, frame0, place, notTuple, Nat.reduceAdd, Nat.reduceLeDiff, resVal, dite_true, dite_false, Int.reduceEq, Int.reduceLT, Int.reduceLE]
  refine Ret_rounds (fun i => l.length - i) (fun i fr G => 1 ≤ i ∧ i ≤ l.length ∧ fr 0 = .slice (some ⟨R, 0, none⟩) l.length (loose 3) ∧ fr 1 = .func (.func 55) #[] #[] ∧ fr 5 = .int .i64 (i : Int) ∧ G = H ++ [] ∧ ∀ j, 1 ≤ j → j < i → ¬ sameM (gt l j) (gt l (j - 1))) 1
    ⟨Nat.le_refl _, by omega, (by simp only [FB, Nat.reduceEqDiff]), (by simp only [FB, Nat.reduceEqDiff]), by rfl, rfl, fun j h1 h2 => by omega⟩ ?_
  rintro i fr G ⟨i1, i2, g0, g1, g5, rfl, hne⟩ hN
  rw [Ret_code l54_2.eq_1]
  have hs0 : Sl H encK 3 (some ⟨R, 0, none⟩) l := Sl.row encK_len hR
  have hw1 : IntKind.i64.wrap ((i : Int) + 1) = ((i + 1 : Nat) : Int) := wrap_nat (by omega)
  have hw0 : IntKind.i64.wrap ((i : Int) - 1) = ((i - 1 : Nat) : Int) := wrap_pred (by omega) (by omega)
  by_cases hlt : i < l.length
  case neg =>
    obtain rfl : i = l.length := by omega
    simp only [n54, r54, g0, g1, g5, int_lt_cast, hlt, SB, Nat.reduceLT, callee, aOp, ne_eq, Nat.reduceEqDiff, aBin, aUn, if_true, if_false, reduceCtorEq, frame0, place, notTuple, Nat.reduceAdd, Nat.reduceLeDiff, resVal, dite_true, dite_false, Int.reduceEq, Int.reduceLT, Int.reduceLE]
    refine done ?_
    have := compact_self l.length (Nat.le_refl _) hne
    rwa [List.take_length] at this
  have hld : ∀ X j, j < l.length → AM.loadCells (H ++ X) (elt (some ⟨R, 0, none⟩) 3 j) 3 = some (encK (gt l j)) := fun X j hj => (hs0.app X).loadCells encK_len hj
  have hidx := fun c (k : IntKind) (H1 : Heap) => hs0.idx (c := c) (k := k) (H1 := H1) hlt
  have hidx0 := fun c (k : IntKind) (H1 : Heap) => hs0.idx (c := c) (k := k) (H1 := H1) (show i - 1 < l.length by omega)
  have ld1 := fun X => hld X i hlt
  have ld0 := fun X => hld X (i - 1) (by omega)
  by_cases hsame : sameM (gt l i) (gt l (i - 1))
  case neg =>
    simp only [n54, r54, g0, g1, g5, int_lt_cast, hlt, hidx, hidx0, ld1, ld0, hw0, hw1, sameM_ok, decide_eq_false hsame, SB, Nat.reduceLT, callee, aOp, ne_eq, Nat.reduceEqDiff, aBin, aUn, if_true, if_false, reduceCtorEq, frame0, place, notTuple, Nat.reduceAdd, Nat.reduceLeDiff, resVal, dite_true, dite_false, Int.reduceEq, Int.reduceLT, Int.reduceLE]
    refine hN (i + 1) _ _ ⟨by omega, by omega, (by simp only [g0, FB, Nat.reduceEqDiff]), (by simp only [g1, FB, Nat.reduceEqDiff]), (by simp only [FB, Nat.reduceEqDiff]), rfl, fun j h1 h2 => ?_⟩ (by omega)
    rcases (by omega : j < i ∨ j = i) with h | rfl
    · exact hne j h1 h
    · exact hsame
  have hsf := slice_from (R := R) (n := l.length) (lo := i) (by omega) (by omega)
  simp only [n54, r54, g0, g1, g5, int_lt_cast, hlt, hidx, hidx0, ld1, ld0, hw0, hw1, sameM_ok, decide_eq_true hsame, hsf, SB, Nat.reduceLT, callee, aOp, ne_eq, Nat.reduceEqDiff, aBin, aUn, if_true, if_false, reduceCtorEq, frame0, place, notTuple, Nat.reduceAdd, Nat.reduceLeDiff, resVal, dite_true, dite_false, Int.reduceEq, Int.reduceLT, Int.reduceLE]
  have ci : compactN (l.take (i + 1)) = l.take i := by
    rw [compact_take (m := i) i1 hlt, if_pos hsame, List.append_nil]
    exact compact_self i i2 hne
  refine Ret_rounds (S := Nat × Nat × List Mk) (fun s => l.length - i - s.1) (fun s fr G => 1 ≤ s.1 ∧ s.1 ≤ l.length - i ∧ s.2.1 + 1 ≤ i + s.1 ∧ s.2.2.length = l.length ∧ s.2.2.take s.2.1 = compactN (l.take (i + s.1)) ∧ (∀ j, s.2.1 ≤ j → j < l.length → gt s.2.2 j = gt l j) ∧
    fr 0 = .slice (some ⟨R, 0, none⟩) l.length (loose 3) ∧ fr 1 = .func (.func 55) #[] #[] ∧ fr 5 = .int .i64 (s.2.1 : Int) ∧ fr 6 = .slice (some ⟨R, i * 3, none⟩) (l.length - i) (loose 3) ∧ fr 7 = .int .i64 (s.1 : Int) ∧ G = DH encK H R s.2.2.toArray ++ []) (1, i, l)
    ⟨Nat.le_refl _, by simp only; omega, Nat.le_refl _, rfl, ci.symm, fun _ _ _ => rfl, (by simp only [g0, FB, Nat.reduceEqDiff]), (by simp only [g1, FB, Nat.reduceEqDiff]), (by simp only [g5, FB, Nat.reduceEqDiff]), (by simp only [FB, Nat.reduceEqDiff]), by rfl, by rw [DH_same hR]⟩ ?_
  rintro ⟨q, k, d⟩ fr2 G ⟨q1, q2, k1, dl, dk, dr, f0, f1, f5, f6, f7, rfl⟩ hM
  simp only at q1 q2 k1 dl dk dr f5 f7
  rw [Ret_code l54_1.eq_1]
  have hsd : ∀ X, Sl (DH encK H R d.toArray ++ X) encK 3 (some ⟨R, 0, none⟩) d := fun X => by
    have := DH_sl (X := X) (d := d.toArray) (p := some ⟨R, 0, none⟩) rfl hRl encK_len
    simpa using this
  have wq1 : IntKind.i64.wrap ((q : Int) + 1) = ((q + 1 : Nat) : Int) := wrap_nat (by omega)
  have wq0 : IntKind.i64.wrap ((q : Int) - 1) = ((q - 1 : Nat) : Int) := wrap_pred (by omega) (by omega)
  have wk1 : IntKind.i64.wrap ((k : Int) + 1) = ((k + 1 : Nat) : Int) := wrap_nat (by omega)
  by_cases hq : q < l.length - i
  · have hix : ∀ r, r < l.length - i → ∀ (c : Nat) (kk : IntKind) (H1 : Heap), idxK 3 (.slice (some ⟨R, i * 3, none⟩) (l.length - i) c) (.int kk (r : Int)) H1 = some (.pointer (some (elt (some ⟨R, 0, none⟩) 3 (i + r))), H1) := fun r hr c kk H1 => by
      rw [idxK_nat hr]
      simp only [elt, addrOf, Option.getD_some, addr_add, Nat.zero_add, Nat.add_mul]
    have hi1 := hix q hq
    have hi0 := hix (q - 1) (by omega)
    have ld1 := fun X => (hsd X).loadCells encK_len (i := i + q) (by omega)
    have ld0 := fun X => (hsd X).loadCells encK_len (i := i + (q - 1)) (by omega)
    rw [dr (i + q) (by omega) (by omega)] at ld1
    rw [dr (i + (q - 1)) (by omega) (by omega)] at ld0
    have ct := compact_take (l := l) (m := i + q) (by omega) (by omega)
    rw [show i + q - 1 = i + (q - 1) by omega] at ct
    by_cases hsm : sameM (gt l (i + q)) (gt l (i + (q - 1)))
    · rw [if_pos hsm, List.append_nil] at ct
      simp only [n54, r54, f0, f1, f5, f6, f7, int_lt_cast, hq, hi1, hi0, ld1, ld0, wq1, wq0, sameM_ok, decide_eq_true hsm, SB, Nat.reduceLT, callee, aOp, ne_eq, Nat.reduceEqDiff, aBin, aUn, if_true, if_false, reduceCtorEq, frame0, place, notTuple, Nat.reduceAdd, Nat.reduceLeDiff, resVal, dite_true, dite_false, Int.reduceEq, Int.reduceLT, Int.reduceLE]
      exact hM (q + 1, k, d) _ _ ⟨by simp only; omega, by simp only; omega, by simp only; omega, dl, by rw [dk]; exact ct.symm, dr, (by simp only [f0, FB, Nat.reduceEqDiff]), (by simp only [f1, FB, Nat.reduceEqDiff]), (by simp only [f5, FB, Nat.reduceEqDiff]), (by simp only [f6, FB, Nat.reduceEqDiff]), (by simp only [FB, Nat.reduceEqDiff]), rfl⟩ (by simp only; omega)
    · rw [if_neg hsm] at ct
      have hst := DH_st (lim := lim) (X := []) (d := d.toArray) (p := some ⟨R, 0, none⟩) (i := k) (y := gt l (i + q)) rfl hRl hl encK_len (by simp; omega)
      have hsa : d.toArray.setIfInBounds k (gt l (i + q)) = (d.set k (gt l (i + q))).toArray := by simp
      rw [hsa] at hst
      have hik := fun c (kk : IntKind) (H1 : Heap) => idxK_nat (e := 3) (n := k) (len := l.length) (c := c) (p := ⟨R, 0, none⟩) (k := kk) (H := H1) (by omega)
      have hek : (⟨R, 0, none⟩ : Addr).add (k * 3) = elt (some ⟨R, 0, none⟩) 3 k := rfl
      rw [hek] at hik
      simp only [n54, r54, f0, f1, f5, f6, f7, int_lt_cast, hq, hi1, hi0, ld1, ld0, wq1, wq0, wk1, sameM_ok, decide_eq_false hsm, hik, hst, encK_len, SB, Nat.reduceLT, callee, aOp, ne_eq, Nat.reduceEqDiff, aBin, aUn, if_true, if_false, reduceCtorEq, frame0, place, notTuple, Nat.reduceAdd, Nat.reduceLeDiff, resVal, dite_true, dite_false, Int.reduceEq, Int.reduceLT, Int.reduceLE]
      refine hM (q + 1, k + 1, d.set k (gt l (i + q))) _ _ ⟨by simp only; omega, by simp only; omega, by simp only; omega, by simp only [List.length_set]; exact dl, ?_, fun j h1 h2 => ?_, (by simp only [f0, FB, Nat.reduceEqDiff]), (by simp only [f1, FB, Nat.reduceEqDiff]), (by simp only [FB, Nat.reduceEqDiff]), (by simp only [f6, FB, Nat.reduceEqDiff]), (by simp only [FB, Nat.reduceEqDiff]), rfl⟩ (by simp only; omega)
      · show (d.set k (gt l (i + q))).take (k + 1) = compactN (l.take (i + q + 1))
        rw [ct, ← dk, List.take_succ_eq_append_getElem (by simp; omega), List.getElem_set_self, List.take_set_of_le (Nat.le_refl _)]
      · simp only at h1 ⊢
        have h3 : j < (d.set k (gt l (i + q))).length := by simp; omega
        rw [gt_lt h3, List.getElem_set_ne (by omega), ← gt_lt (by omega)]
        exact dr j (by omega) h2
  · obtain rfl : q = l.length - i := by omega
    rw [show i + (l.length - i) = l.length by omega, List.take_length] at dk
    rw [show i + (l.length - i) = l.length by omega] at k1
    have hkl : (compactN l).length = k := by rw [← dk, List.length_take]; omega
    have hsk := slice_from (R := R) (n := l.length) (lo := k) (by omega) (by omega)
    have htk := slice_to (R := R) (n := l.length) (hi := k) (by omega) (by omega)
    have hnz : ¬ l.length - k = 0 := by omega
    have hcl : AM.storeAt lim (DH encK H R d.toArray ++ []) ⟨R, k * 3, none⟩ ((List.replicate (l.length - k) zeroM).flatMap encK) = some (DH encK H R (d.take k ++ List.replicate (d.length - k) zeroM).toArray ++ []) := by
      have hg := DH_get (enc := encK) (X := []) (d := d.toArray) hRl
      rw [storeAt_lit, hg]
      have hlen : ((List.replicate (l.length - k) zeroM).flatMap encK).length = (l.length - k) * 3 := by rw [flat_len encK_len, List.length_replicate]
      have hlen2 : (d.flatMap encK).length = l.length * 3 := by rw [flat_len encK_len, dl]
      simp only [hlen, hlen2]
      rw [if_pos ⟨hl, by omega⟩, ← dl, clear_cells (by omega)]
      simp only [List.append_nil, DH, List.set_set]
    simp only [n54, r54, f0, f1, f5, f6, f7, int_lt_cast, hq, hsk, htk, hnz, zeros_eq, hcl, SB, Nat.reduceLT, callee, aOp, ne_eq, Nat.reduceEqDiff, aBin, aUn, if_true, if_false, reduceCtorEq, frame0, place, notTuple, Nat.reduceAdd, Nat.reduceLeDiff, resVal, dite_true, dite_false, Int.reduceEq, Int.reduceLT, Int.reduceLE]
    have hsl : Sl (DH encK H R (d.take k ++ List.replicate (d.length - k) zeroM).toArray) encK 3 (some ⟨R, 0, none⟩) (compactN l) := by
      have h1 := DH_sl (X := []) (d := (d.take k ++ List.replicate (d.length - k) zeroM).toArray) (p := some ⟨R, 0, none⟩) rfl hRl encK_len
      rw [List.append_nil] at h1
      have h2 := Sl.pre h1 encK_len
      rw [← dk]; exact h2
    have := hQ _ hsl ⟨by simp [DH], fun j hj hA => hget_set_ne (by simpa using hA)⟩
    rwa [hkl] at this
theorem compact_nil [OB] {lim : Nat} {H : Heap} {Q : Value → Heap → Prop} : CallR E false lim 54 [.slice none 0 0, .func (.func 55) #[] #[]] H Q = Q (.slice none 0 0) H := by
  refine CallR.eq ?_
  refine runs' (by decide) e54 rfl ?_
  rw [b54, c54]
  simp only [n54, r54, SB, Nat.reduceLT, callee, aOp, ne_eq, Nat.reduceEqDiff, aBin, aUn, if_true, if_false, reduceCtorEq, frame0, place, notTuple, Nat.reduceAdd, Nat.reduceLeDiff, resVal, dite_true, dite_false, Int.reduceEq, Int.reduceLT, Int.reduceLE]
  exact List.append_nil H
theorem values_ok [OB] {lim R : Nat} {H : Heap} {Q : Value → Heap → Prop} : CallR E false lim 50 [.map (some R)] H Q = Q (.func (.func 64) #[] #[.pointer (some ⟨H.length, 0, none⟩)]) (H ++ [.cells false [.map (some R)]]) := by
  refine CallR.eq ?_
  refine runs' (by decide) e50 rfl ?_
  rw [b50, c50]
  simp only [n50, r50, SB, Nat.reduceLT, callee, aOp, ne_eq, Nat.reduceEqDiff, aBin, aUn, if_true, if_false, reduceCtorEq, frame0, place, notTuple, Nat.reduceAdd, Nat.reduceLeDiff, resVal, dite_true, dite_false, Int.reduceEq, Int.reduceLT, Int.reduceLE]
def esOf (S : List Ev) (i : Nat) : Ess := (S.take i).foldl leastAdd []
theorem esOf_succ {S : List Ev} {i : Nat} (h : i < S.length) : esOf S (i + 1) = leastAdd (esOf S i) (gt S i) := by
  unfold esOf
  rw [List.take_succ_eq_append_getElem h, List.foldl_append, gt_lt h]; rfl
theorem esOf_len (S : List Ev) : ∀ i, (esOf S i).length ≤ i
  | 0 => Nat.le_refl _
  | i + 1 => by
    rcases Nat.lt_or_ge i S.length with h | h
    · rw [esOf_succ h]
      have := esOf_len S i
      unfold leastAdd
      split
      · rw [putM_K]; have := putK_len (k := keyM (gt S i)) (v := mkM (gt S i)) (l := esOf S i); omega
      split
      · rw [putM_K]; have := putK_len (k := keyM (gt S i)) (v := mkM (gt S i)) (l := esOf S i); omega
      · omega
    · have e : esOf S (i + 1) = esOf S i := by unfold esOf; rw [List.take_of_length_le h, List.take_of_length_le (by omega)]
      rw [e]; have := esOf_len S i; omega
theorem gather_ok [OB] {lim c : Nat} {p : Option Addr} {S : List Ev} {H : Heap} {Q : Value → Heap → Prop} (hs : Sl H encN 6 p S) (hS : RightL S) (hl : lim ≤ H.length)
    (hQ : ∀ G p' c', Sl G encK 3 p' (gatherN S) → CapOk 3 c' (gatherN S).length → Chg [] H G → Q (.slice p' (gatherN S).length c') (G ++ [])) :
    CallR Ef false lim 39 [.slice p S.length c] H Q := by
  have hn := hS.1
  refine runsF (by decide) e39 rfl ?_
  rw [b39, c39]
  simp only [n39, r39, SB, Nat.reduceLT, callee, aOp, ne_eq, Nat.reduceEqDiff, aBin, aUn, if_true, if_false, reduceCtorEq, frame0, place, notTuple, Nat.reduceAdd, Nat.reduceLeDiff, resVal, dite_true, dite_false, Int.reduceEq, Int.reduceLT, Int.reduceLE]
  refine Ret_rounds (fun i => S.length - i) (fun i fr G => i ≤ S.length ∧ fr 3 = .map (some H.length) ∧ fr 12 = .slice p S.length c ∧ fr 13 = .int .i64 (S.length : Int) ∧ fr 14 = .int .i64 (i : Int) ∧ hget G H.length = .map (encM kM vK (esOf S i)) ∧ H.length < G.length ∧ Sl G encN 6 p S ∧ ∀ j, j < H.length → hget G j = hget H j) 0
    ⟨Nat.zero_le _, (by simp only [FB, Nat.reduceEqDiff]), (by simp only [FB, Nat.reduceEqDiff]), (by simp only [FB, Nat.reduceEqDiff]), by rfl, by rw [hget_new0]; rfl, by simp, hs.app _, fun j hj => hget_old hj⟩ ?_
  rintro i fr G ⟨hi, g3, g12, g13, g14, gm, gl, gs, go⟩ hN
  rw [Ret_code l39_1.eq_1]
  refine Ret_pad ?_
  have gmX : ∀ X, hget (G ++ X) H.length = .map (encM kM vK (esOf S i)) := fun X => by rw [hget_old gl]; exact gm
  by_cases hlt : i < S.length
  · have hld := fun X => (gs.app X).loadCells encN_len hlt
    have hidx := fun c (k : IntKind) (H1 : Heap) => gs.idx (c := c) (k := k) (H1 := H1) hlt
    have hw1 : IntKind.i64.wrap ((i : Int) + 1) = ((i + 1 : Nat) : Int) := wrap_nat (by omega)
    have hf : FineE (gt S i) := hS.2 _ (gt_mem hlt)
    have hf' := hf
    unfold FineE maxT at hf'
    have hsc := esOf_succ hlt
    generalize hsx : gt S i = s at *
    have wq : IntKind.i64.wrap (Int.tdiv s.seen 1440) = s.seen / 1440 := by
      rw [Int.tdiv_eq_ediv_of_nonneg (by omega)]; exact wrap_id (by omega) (by omega)
    have wd : IntKind.i64.wrap (s.seen - s.at') = s.seen - s.at' := wrap_id (by omega) (by omega)
    have hlG : lim ≤ G.length := by omega
    have hk : keyOk (.ints [.i64, .i64]) (.agg #[.int .i64 s.scanner, .int .i64 (s.seen / 1440)]) = true := kM_ok (k := keyM s)
    have hfk := findKey_enc (vv := vK) kM_eq (keyM s) (esOf S i) 0
    have hkey : kM (keyM s) = .agg #[.int .i64 s.scanner, .int .i64 (s.seen / 1440)] := rfl
    have hval : vK (mkM s) = .agg #[.int .i64 s.scanner, .int .i64 s.at', .int .i64 (s.seen - s.at')] := rfl
    rw [hkey] at hfk
    have hget' := fk_get (keyM s) (esOf S i) 0
    rw [← getM_K] at hget'
    have fin : ∀ (es' : Ess) (G1 : Heap) (X : Heap), hget G1 H.length = .map (encM kM vK es') → es' = esOf S (i + 1) → (∀ j, j ≠ H.length → hget G1 j = hget G j) → G1.length = G.length →
        hget (G1 ++ X) H.length = .map (encM kM vK (esOf S (i + 1))) ∧ H.length < (G1 ++ X).length ∧ Sl (G1 ++ X) encN 6 p S ∧ ∀ j, j < H.length → hget (G1 ++ X) j = hget H j := by
      intro es' G1 X h1 h2 m1 l1
      subst h2
      refine ⟨by rw [hget_old (by omega)]; exact h1, by simp; omega, ?_, fun j hj => by rw [hget_old (by omega), m1 j (by omega)]; exact go j hj⟩
      refine (Sl.same gs fun a ha hne => ?_).app _
      subst ha
      have := hs.lt hne
      exact m1 _ (by omega)
    have mutM : ∀ es' : List (Value × Value), ∃ G1, (∀ X : Heap, (G ++ X).set H.length (.map es') = G1 ++ X) ∧ hget G1 H.length = .map es' ∧ Mut G G1 H.length := fun es' => mut_set gl _
    cases hc : fk (keyM s) (esOf S i) 0 with
    | none =>
      rw [hc] at hfk hget'
      simp only [Option.map_none] at hfk hget'
      have hput : esOf S (i + 1) = putM (keyM s) (mkM s) (esOf S i) := by rw [hsc]; unfold leastAdd; rw [← hget']
      obtain ⟨G1, e1, h1, m1⟩ := mutM (encM kM vK (esOf S i) ++ [(.agg #[.int .i64 s.scanner, .int .i64 (s.seen / 1440)], .agg #[.int .i64 s.scanner, .int .i64 s.at', .int .i64 (s.seen - s.at')])])
      have h1' : hget G1 H.length = .map (encM kM vK (putK (keyM s) (mkM s) (esOf S i))) := by
        rw [h1, ← fk_none (v' := mkM s) hc]; simp only [encM, List.map_append, List.map_cons, List.map_nil]; rfl
      simp only [n39, r39, g3, g12, g13, g14, int_lt_cast, hlt, hidx, hld, hlG, encN_len, encN_0, encN_1, encN_2, encN_3, encN_4, encN_5, take_all, setAll_full, wq, wd, hw1, gmX, hk, hfk, e1, hl, SB, Nat.reduceLT, callee, aOp, ne_eq, Nat.reduceEqDiff, aBin, aUn, if_true, if_false, reduceCtorEq, frame0, place, notTuple, Nat.reduceAdd, Nat.reduceLeDiff, resVal, dite_true, dite_false, Int.reduceEq, Int.reduceLT, Int.reduceLE]
      obtain ⟨a1, a2, a3, a4⟩ := fin _ G1 _ h1' (by rw [hput, putM_K]) m1.other m1.len
      exact hN (i + 1) _ _ ⟨by omega, (by simp only [g3, FB, Nat.reduceEqDiff]), (by simp only [g12, FB, Nat.reduceEqDiff]), (by simp only [g13, FB, Nat.reduceEqDiff]), (by simp only [FB, Nat.reduceEqDiff]), a1, a2, a3, a4⟩ (by omega)
    | some x =>
      obtain ⟨j, old⟩ := x
      rw [hc] at hfk hget'
      simp only [Option.map_some] at hfk hget'
      have hvo : vK old = .agg #[.int .i64 old.scanner, .int .i64 old.at', .int .i64 old.off] := rfl
      rw [hvo] at hfk
      have hla : esOf S (i + 1) = if better (mkM s) old then putM (keyM s) (mkM s) (esOf S i) else esOf S i := by rw [hsc]; unfold leastAdd; rw [← hget']
      obtain ⟨G1, e1, h1, m1⟩ := mutM ((encM kM vK (esOf S i)).set j (.agg #[.int .i64 s.scanner, .int .i64 (s.seen / 1440)], .agg #[.int .i64 s.scanner, .int .i64 s.at', .int .i64 (s.seen - s.at')]))
      have h1' : hget G1 H.length = .map (encM kM vK (putK (keyM s) (mkM s) (esOf S i))) := by
        rw [h1, ← (fk_some (v' := mkM s) hc).2.2]; simp only [encM, List.map_set, Nat.sub_zero]; rfl
      by_cases c1 : s.seen - s.at' < old.off
      · simp only [n39, r39, g3, g12, g13, g14, int_lt_cast, hlt, hidx, hld, hlG, encN_len, encN_0, encN_1, encN_2, encN_3, encN_4, encN_5, take_all, setAll_full, wq, wd, hw1, gmX, hk, hfk, e1, hl, eq_true c1, SB, Nat.reduceLT, callee, aOp, ne_eq, Nat.reduceEqDiff, aBin, aUn, if_true, if_false, reduceCtorEq, frame0, place, notTuple, Nat.reduceAdd, Nat.reduceLeDiff, resVal, dite_true, dite_false, Int.reduceEq, Int.reduceLT, Int.reduceLE]
        obtain ⟨a1, a2, a3, a4⟩ := fin _ G1 _ h1' (by rw [hla, if_pos (.inl c1), putM_K]) m1.other m1.len
        exact hN (i + 1) _ _ ⟨by omega, (by simp only [g3, FB, Nat.reduceEqDiff]), (by simp only [g12, FB, Nat.reduceEqDiff]), (by simp only [g13, FB, Nat.reduceEqDiff]), (by simp only [FB, Nat.reduceEqDiff]), a1, a2, a3, a4⟩ (by omega)
      by_cases c2 : s.seen - s.at' = old.off
      · by_cases c3 : s.at' < old.at'
        · simp only [n39, r39, g3, g12, g13, g14, int_lt_cast, hlt, hidx, hld, hlG, encN_len, encN_0, encN_1, encN_2, encN_3, encN_4, encN_5, take_all, setAll_full, wq, wd, hw1, gmX, hk, hfk, e1, hl, eq_false c1, eq_true c2, eq_true c3, SB, Nat.reduceLT, callee, aOp, ne_eq, Nat.reduceEqDiff, aBin, aUn, if_true, if_false, reduceCtorEq, frame0, place, notTuple, Nat.reduceAdd, Nat.reduceLeDiff, resVal, dite_true, dite_false, Int.reduceEq, Int.reduceLT, Int.reduceLE]
          obtain ⟨a1, a2, a3, a4⟩ := fin _ G1 _ h1' (by rw [hla, if_pos (.inr ⟨c2, c3⟩), putM_K]) m1.other m1.len
          exact hN (i + 1) _ _ ⟨by omega, (by simp only [g3, FB, Nat.reduceEqDiff]), (by simp only [g12, FB, Nat.reduceEqDiff]), (by simp only [g13, FB, Nat.reduceEqDiff]), (by simp only [FB, Nat.reduceEqDiff]), a1, a2, a3, a4⟩ (by omega)
        · simp only [n39, r39, g3, g12, g13, g14, int_lt_cast, hlt, hidx, hld, hlG, encN_len, encN_0, encN_1, encN_2, encN_3, encN_4, encN_5, take_all, setAll_full, wq, wd, hw1, gmX, hk, hfk, e1, hl, eq_false c1, eq_true c2, eq_false c3, SB, Nat.reduceLT, callee, aOp, ne_eq, Nat.reduceEqDiff, aBin, aUn, if_true, if_false, reduceCtorEq, frame0, place, notTuple, Nat.reduceAdd, Nat.reduceLeDiff, resVal, dite_true, dite_false, Int.reduceEq, Int.reduceLT, Int.reduceLE]
          obtain ⟨a1, a2, a3, a4⟩ := fin _ G _ gm (by rw [hla, if_neg (by unfold better mkM; simp only; omega)]) (fun _ _ => rfl) rfl
          exact hN (i + 1) _ _ ⟨by omega, (by simp only [g3, FB, Nat.reduceEqDiff]), (by simp only [g12, FB, Nat.reduceEqDiff]), (by simp only [g13, FB, Nat.reduceEqDiff]), (by simp only [FB, Nat.reduceEqDiff]), a1, a2, a3, a4⟩ (by omega)
      · simp only [n39, r39, g3, g12, g13, g14, int_lt_cast, hlt, hidx, hld, hlG, encN_len, encN_0, encN_1, encN_2, encN_3, encN_4, encN_5, take_all, setAll_full, wq, wd, hw1, gmX, hk, hfk, e1, hl, eq_false c1, eq_false c2, SB, Nat.reduceLT, callee, aOp, ne_eq, Nat.reduceEqDiff, aBin, aUn, if_true, if_false, reduceCtorEq, frame0, place, notTuple, Nat.reduceAdd, Nat.reduceLeDiff, resVal, dite_true, dite_false, Int.reduceEq, Int.reduceLT, Int.reduceLE]
        obtain ⟨a1, a2, a3, a4⟩ := fin _ G _ gm (by rw [hla, if_neg (by unfold better mkM; simp only; omega)]) (fun _ _ => rfl) rfl
        exact hN (i + 1) _ _ ⟨by omega, (by simp only [g3, FB, Nat.reduceEqDiff]), (by simp only [g12, FB, Nat.reduceEqDiff]), (by simp only [g13, FB, Nat.reduceEqDiff]), (by simp only [FB, Nat.reduceEqDiff]), a1, a2, a3, a4⟩ (by omega)
  · obtain rfl : i = S.length := by omega
    have hes : esOf S S.length = leastN S := by unfold esOf leastN; rw [List.take_length]
    rw [hes] at gm gmX
    have hv := fun (X : Heap) (Q : Value → Heap → Prop) => CallR.eqF' (Q := Q) (show CallR E false lim 50 [.map (some H.length)] (G ++ X) (fun v' H1 => v' = _ ∧ H1 = _) by rw [values_ok]; exact ⟨rfl, rfl⟩)
    simp only [n39, r39, g3, g12, g13, g14, int_lt_cast, hlt, hv, SB, Nat.reduceLT, callee, aOp, ne_eq, Nat.reduceEqDiff, aBin, aUn, if_true, if_false, reduceCtorEq, frame0, place, notTuple, Nat.reduceAdd, Nat.reduceLeDiff, resVal, dite_true, dite_false, Int.reduceEq, Int.reduceLT, Int.reduceLE]
    have hle := esOf_len S S.length
    rw [hes] at hle
    refine sorted_ok (es := leastN S) (R := H.length) (by simp; omega) (by rw [hget_new0]; rfl) (gmX _) (by omega) fun G1 p1 c1 hO hC => ?_
    have hL : (sortB keysM ((leastN S).map (·.2))).length = (leastN S).length := by rw [(sortB_perm keysM _).length_eq, List.length_map]
    have hold : ∀ j, j < H.length → hget G1 j = hget H j := fun j hj => by
      rw [hC.other j (by simp; omega) (by simp), hget_old (by omega)]; exact go j hj
    have hlen := hC.len
    simp only [List.length_append, List.length_cons, List.length_nil] at hlen
    rcases hO with ⟨h0, rfl, rfl⟩ | ⟨R, rfl, rfl, hR, hRl⟩
    · have hg : gatherN S = [] := by unfold gatherN; rw [h0]; rfl
      have hz : (leastN S).length = 0 := by rw [← hL, h0]; rfl
      rw [hz]
      have hcn := fun X (Q : Value → Heap → Prop) => CallR.eqF (Q := Q) (show CallR E false lim 54 [.slice none 0 0, .func (.func 55) #[] #[]] (G1 ++ X) (fun v' H1 => v' = .slice none 0 0 ∧ H1 = G1 ++ X) by rw [compact_nil]; exact ⟨rfl, rfl⟩)
      simp only [n39, r39, hcn, SB, Nat.reduceLT, callee, aOp, ne_eq, Nat.reduceEqDiff, aBin, aUn, if_true, if_false, reduceCtorEq, frame0, place, notTuple, Nat.reduceAdd, Nat.reduceLeDiff, resVal, dite_true, dite_false, Int.reduceEq, Int.reduceLT, Int.reduceLE]
      have := hQ G1 none 0 (by rw [hg]; rfl) (by rw [hg]; exact .inr ⟨Nat.le_refl _, by decide⟩) ⟨by omega, fun j hj _ => hold j hj⟩
      rw [hg] at this
      exact this
    · rw [← hL]
      simp only [n39, r39, SB, Nat.reduceLT, callee, aOp, ne_eq, Nat.reduceEqDiff, aBin, aUn, if_true, if_false, reduceCtorEq, frame0, place, notTuple, Nat.reduceAdd, Nat.reduceLeDiff, resVal, dite_true, dite_false, Int.reduceEq, Int.reduceLT, Int.reduceLE]
      simp only [List.length_append, List.length_cons, List.length_nil] at hRl
      refine CallR.weak (E' := E) ?_
      rw [List.append_nil]
      refine compact_ok hR (by omega) (by omega) fun G2 hs2 hC2 => ?_
      refine Ret_pad ?_
      simp only [n39, r39, SB, Nat.reduceLT, callee, aOp, ne_eq, Nat.reduceEqDiff, aBin, aUn, if_true, if_false, reduceCtorEq, frame0, place, notTuple, Nat.reduceAdd, Nat.reduceLeDiff, resVal, dite_true, dite_false, Int.reduceEq, Int.reduceLT, Int.reduceLE]
      refine hQ G2 _ _ hs2 (.inl rfl) ⟨by have := hC2.len; omega, fun j hj _ => ?_⟩
      rw [hC2.other j (by omega) (by simp; omega)]
      exact hold j hj
theorem append_room1 {α : Type} {lim R e bytes cap k b : Nat} {dest : Option Nat} {H : Heap} {enc : α → List Value} {old : List α} {x : α} {ro : Bool} {rest : List Value} (he : ∀ x, (enc x).length = e) (he0 : e ≠ 0) (hx : hget H b = .cells ro (enc x)) (hR : hget H R = .cells false (old.flatMap enc ++ rest)) (hl : lim ≤ R)
    (hc : old.length + 1 ≤ cap) (hr : rest.length = (cap - old.length) * e) (hcap : cap < 2 ^ 61) (hb : (old.length + 1) * bytes ≤ maxBytes) :
    aAppend lim dest e bytes false (.slice (some ⟨R, 0, none⟩) old.length cap) (.slice (some ⟨b, 0, none⟩) 1 k) H = some (.slice (some ⟨R, 0, none⟩) (old.length + 1) cap, H.set R (.cells false ((old ++ [x]).flatMap enc ++ rest.drop e))) := by
  have hRl := hget_alive hR
  have hx' : AM.loadCells H ⟨b, 0, none⟩ (1 * e) = some (enc x) := by
    rw [loadCells_lit, hx]
    simp only [Nat.zero_add, List.drop_zero, Nat.one_mul]
    rw [if_pos (by rw [he]; exact Nat.le_refl _), ← he x, List.take_length]
  have hle : e ≤ rest.length := by rw [hr]; exact Nat.le_mul_of_pos_left e (by omega)
  have hy : AM.loadCells H ⟨R, 0, none⟩ (old.length * e) = some (old.flatMap enc) := by
    rw [loadCells_lit, hR]
    simp only [Nat.zero_add, List.drop_zero]
    rw [if_pos (by rw [List.length_append, flat_len he]; omega), ← flat_len he, List.take_left]
  have hst : AM.storeAt lim H (Addr.add ⟨R, 0, none⟩ (old.length * e)) (enc x) = some (H.set R (.cells false ((old ++ [x]).flatMap enc ++ rest.drop e))) := by
    simp only [addr_add, storeAt_lit, hR, Nat.zero_add]
    rw [if_pos ⟨hl, by rw [List.length_append, flat_len he, he]; omega⟩]
    have := setAll_mid (enc x) (old.flatMap enc) (rest.take e) (rest.drop e) (by rw [he, List.length_take]; omega)
    rw [List.append_assoc, List.take_append_drop, flat_len he] at this
    rw [this, List.flatMap_append, List.flatMap_cons, List.flatMap_nil, List.append_nil]
  simp only [aAppend, firstCells, lenOf, hx', hy, hst, if_false, Bool.false_eq_true, Nat.one_ne_zero]
  rw [if_neg (by omega), if_neg (by unfold loose; omega), if_pos (by omega), if_pos (by omega)]
def evOf (M : List Mk) (S : List Ev) : List Ev := S.map fun s => { s with time := timeN M s }
theorem evOf_len {M : List Mk} {S : List Ev} : (evOf M S).length = S.length := List.length_map ..
theorem evOf_gt {M : List Mk} {S : List Ev} {i : Nat} (h : i < S.length) : gt (evOf M S) i = { gt S i with time := timeN M (gt S i) } := by
  rw [gt_lt (by rw [evOf_len]; exact h), gt_lt h]
  unfold evOf
  rw [List.getElem_map]
structure ESt (H : Heap) (M : List Mk) (S : List Ev) (p pm : Option Addr) (B i : Nat) (G : Heap) : Prop where
  row : ∃ rest, rest.length = (S.length - i) * 7 ∧ hget G B = .cells false (((evOf M S).take i).flatMap encE ++ rest)
  sm : Sl G encK 3 pm M
  ss : Sl G encN 6 p S
  old : ∀ j, j < H.length → hget G j = hget H j
  len : B < G.length
def opB (p : Option Addr) : List Nat := match p with
  | none => []
  | some a => [a.block]
theorem opB_mem {p : Option Addr} {j : Nat} (h : j ∈ opB p) : ∃ a, p = some a ∧ j = a.block := by
  cases p with
  | none => cases h
  | some a => exact ⟨a, rfl, by simpa [opB] using h⟩
theorem opB_not {p : Option Addr} {j : Nat} (h : j ∉ opB p) : ∀ a, p = some a → j ≠ a.block := fun a e h2 => h (by rw [e]; simp [opB, h2])
structure FSt (H : Heap) (EV : List Ev) (B Mp : Nat) (kr tr : List Ev) (es : List ((Int × Int × Int) × Int)) (kp tp : Option Addr) (kc tc : Nat) (G : Heap) : Prop where
  mp : hget G Mp = .map (encM kS vI es)
  ev : hget G B = .cells false (EV.flatMap encE)
  ko : Own (Mp + 1) G encE 7 kp kc kr.reverse
  to : Own (Mp + 1) G encE 7 tp tc tr.reverse
  ne : ∀ a b, kp = some a → tp = some b → a.block ≠ b.block
  old : ∀ j, j < H.length → hget G j = hget H j
  len : Mp < G.length
  rel : ∀ e, getK (sight e) es = (lastK e kr).map (·.time)
  sub : ∀ x ∈ kr, x ∈ EV
theorem FSt.twice {H : Heap} {EV : List Ev} {B Mp : Nat} {kr tr : List Ev} {es : List ((Int × Int × Int) × Int)} {kp tp : Option Addr} {kc tc : Nat} {G : Heap} {lim : Nat} (h : FSt H EV B Mp kr tr es kp tp kc tc G) (hl : lim ≤ H.length) (hHB : H.length ≤ B) (hBM : B < Mp) (e : Ev) (hn : tr.length < 4000) (x y : Blk) :
    ∃ G', aAppend lim none 7 56 false (.slice tp tr.length tc) (.slice (some ⟨G.length + 2, 0, none⟩) 1 1) (G ++ [x, y, .cells false (encE e)]) = some (.slice (some ⟨G.length + 3, 0, none⟩) (tr.length + 1) (loose 7), G' ++ []) ∧ FSt H EV B Mp kr (e :: tr) es kp (some ⟨G.length + 3, 0, none⟩) kc (loose 7) (G' ++ []) := by
  have len := h.len
  obtain ⟨G2, e2, own2, _, hold2, len2, _⟩ := h.to.step (lim' := lim) (bytes := 56) (by omega) encE_len (by decide) e (by rw [List.length_reverse]; unfold maxBytes; omega) (by rw [List.length_reverse]; omega) (by omega) [x, y, .cells false (encE e)] (G.length + 2) 1 (by rw [hget_new]; rfl)
  rw [List.length_reverse] at e2
  simp only [List.length_cons, List.length_nil, Nat.zero_add, Nat.reduceAdd] at e2 own2 len2
  have nt : ∀ j, j ≤ Mp → ∀ a, tp = some a → j ≠ a.block := fun j hj a ha => by have := (h.to.block ha).1; omega
  have hc : Chg (opB tp) G (G2 ++ []) := ⟨by simp; omega, fun j hj hA => hold2 j hj (opB_not hA)⟩
  refine ⟨G2, e2, (hold2 _ len (nt _ (Nat.le_refl _))).trans h.mp, (hold2 _ (by omega) (nt _ (by omega))).trans h.ev, h.ko.chg hc fun a ha hh => ?_, by rw [List.reverse_cons]; exact own2, fun a b ha hb => ?_, fun j hj => (hold2 j (by omega) (nt _ (by omega))).trans (h.old j hj), by simp; omega, h.rel, h.sub⟩
  · obtain ⟨b, hb, e⟩ := opB_mem hh
    exact h.ne a b ha hb e
  · cases hb
    have := (h.ko.block ha).2
    show a.block ≠ G.length + 3
    omega
theorem lastK_cons {e x : Ev} {kr : List Ev} : lastK e (x :: kr) = if sight x = sight e then some x else lastK e kr := by
  unfold lastK
  by_cases h : sight x = sight e
  · rw [List.find?_cons_of_pos (by simpa using h), if_pos h]
  · rw [List.find?_cons_of_neg (by simpa using h), if_neg h]
theorem FSt.kept {H : Heap} {EV : List Ev} {B Mp : Nat} {kr tr : List Ev} {es : List ((Int × Int × Int) × Int)} {kp tp : Option Addr} {kc tc : Nat} {G : Heap} {lim : Nat} (h : FSt H EV B Mp kr tr es kp tp kc tc G) (hl : lim ≤ H.length) (hHB : H.length ≤ B) (hBM : B < Mp) (e : Ev) (he : e ∈ EV) (hn : kr.length < 4000) (x y : Blk) :
    ∃ G1, (∀ X : Heap, (G ++ X).set Mp (.map (encM kS vI (putK (sight e) e.time es))) = G1 ++ X) ∧ ∃ G', aAppend lim none 7 56 false (.slice kp kr.length kc) (.slice (some ⟨G1.length + 2, 0, none⟩) 1 1) (G1 ++ [x, y, .cells false (encE e)]) = some (.slice (some ⟨G1.length + 3, 0, none⟩) (kr.length + 1) (loose 7), G' ++ []) ∧
      FSt H EV B Mp (e :: kr) tr (putK (sight e) e.time es) (some ⟨G1.length + 3, 0, none⟩) tp (loose 7) tc (G' ++ []) ∧ G1.length = G.length := by
  have len := h.len
  obtain ⟨G1, e1, h1, m1⟩ := mut_set (G := G) (R := Mp) len (.map (encM kS vI (putK (sight e) e.time es)))
  have l1 := m1.len
  have nk : ∀ j, j ≤ Mp → ∀ a, kp = some a → j ≠ a.block := fun j hj a ha => by have := (h.ko.block ha).1; omega
  have nt : ∀ j, j ≤ Mp → ∀ a, tp = some a → j ≠ a.block := fun j hj a ha => by have := (h.to.block ha).1; omega
  have ko1 := h.ko.mut m1 (fun a ha => (nk Mp (Nat.le_refl _) a ha).symm)
  have to1 := h.to.mut m1 (fun a ha => (nt Mp (Nat.le_refl _) a ha).symm)
  obtain ⟨G2, e2, own2, _, hold2, len2, _⟩ := ko1.step (lim' := lim) (bytes := 56) (by omega) encE_len (by decide) e (by rw [List.length_reverse]; unfold maxBytes; omega) (by rw [List.length_reverse]; omega) (by omega) [x, y, .cells false (encE e)] (G1.length + 2) 1 (by rw [hget_new]; rfl)
  rw [List.length_reverse] at e2
  simp only [List.length_cons, List.length_nil, Nat.zero_add, Nat.reduceAdd] at e2 own2 len2
  have hc : Chg (opB kp) G1 (G2 ++ []) := ⟨by simp; omega, fun j hj hA => hold2 j hj (opB_not hA)⟩
  refine ⟨G1, e1, G2, e2, ⟨(hold2 _ (by omega) (nk _ (Nat.le_refl _))).trans h1, (hold2 _ (by omega) (nk _ (by omega))).trans ((m1.other _ (by omega)).trans h.ev), by rw [List.reverse_cons]; exact own2, to1.chg hc fun a ha hh => ?_, fun a b ha hb => ?_, fun j hj => (hold2 j (by omega) (nk _ (by omega))).trans ((m1.other j (by omega)).trans (h.old j hj)), by simp; omega, fun a => ?_, fun z hz => ?_⟩, l1⟩
  · obtain ⟨b, hb, e⟩ := opB_mem hh
    exact h.ne b a hb ha e.symm
  · cases ha
    have := (h.to.block hb).2
    show G1.length + 3 ≠ b.block
    omega
  · rw [getK_put, lastK_cons, h.rel]
    by_cases hq : sight a = sight e
    · rw [if_pos hq, if_pos hq.symm]; rfl
    · rw [if_neg hq, if_neg fun q => hq q.symm]
  · rcases List.mem_cons.mp hz with rfl | hz
    · exact he
    · exact h.sub z hz
theorem sift_ok [OB] {lim c : Nat} {p : Option Addr} {S : List Ev} {H : Heap} {Q : Value → Heap → Prop} (hs : Sl H encN 6 p S) (hS : RightL S) (hl : lim ≤ H.length)
    (hQ : ∀ G kp kc tp tc, Own H.length G encE 7 kp kc (siftN S).1 → Own H.length G encE 7 tp tc (siftN S).2 → (∀ a b, kp = some a → tp = some b → a.block ≠ b.block) → Chg [] H G → Q (.tuple #[.slice kp (siftN S).1.length kc, .slice tp (siftN S).2.length tc]) (G ++ [])) :
    CallR Ef false lim 38 [.slice p S.length c] H Q := by
  have hn := hS.1
  refine runsF (by decide) e38 rfl ?_
  rw [b38, c38]
  simp only [n38, r38, SB, Nat.reduceLT, callee, aOp, ne_eq, Nat.reduceEqDiff, aBin, aUn, if_true, if_false, reduceCtorEq, frame0, place, notTuple, Nat.reduceAdd, Nat.reduceLeDiff, resVal, dite_true, dite_false, Int.reduceEq, Int.reduceLT, Int.reduceLE]
  rw [List.append_nil]
  refine gather_ok hs hS hl fun G pm cm sm cmo hC => ?_
  have hMk := Go.Scan.gather_ok hS.2
  generalize hM : gatherN S = M at *
  have lM : M.length ≤ 2000 := by rw [← hM]; have := gather_len S; omega
  have hCl := hC.len
  have hss : ∀ G', (∀ j, j < H.length → hget G' j = hget H j) → Sl G' encN 6 p S := fun G' ho => Sl.same hs fun a ha hne => by
    subst ha; exact ho _ (hs.lt hne)
  have hb1 : (S.length : Int) * 56 ≤ 2 ^ 45 := by omega
  have hb2 : (S.length : Int) < 2 ^ 62 := by omega
  have hz : (List.range (S.length * 7)).length = S.length * 7 := List.length_range
  have hnn : (0 : Int) ≤ (S.length : Int) := by omega
  have hrow0 : ∀ z : List Value, z.length = S.length * 7 → ESt H M S p pm G.length 0 (G ++ [.cells false z]) := fun z hz => by
    have ho : ∀ j, j < H.length → hget (G ++ [.cells false z]) j = hget H j := fun j hj => by rw [hget_old (by omega), hC.other j hj (by simp)]
    exact ⟨⟨z, by rw [hz, Nat.sub_zero], by rw [hget_new0]; rfl⟩, sm.app _, hss _ ho, ho, by simp⟩
  simp only [n38, r38, hb1, hb2, Int.toNat_natCast, Int.toNat_zero, hnn, SB, Nat.reduceLT, callee, aOp, ne_eq, Nat.reduceEqDiff, aBin, aUn, if_true, if_false, reduceCtorEq, frame0, place, notTuple, Nat.reduceAdd, Nat.reduceLeDiff, resVal, dite_true, dite_false, Int.reduceEq, Int.reduceLT, Int.reduceLE]
  refine Ret_rounds (fun i => S.length - i) (fun i fr G2 => i ≤ S.length ∧ fr 2 = .slice none 0 0 ∧ fr 3 = .slice none 0 0 ∧ fr 4 = .slice pm M.length cm ∧ fr 5 = .slice (some ⟨G.length, 0, none⟩) i S.length ∧ fr 19 = .slice p S.length c ∧ fr 20 = .int .i64 (S.length : Int) ∧ fr 21 = .int .i64 (i : Int) ∧ ESt H M S p pm G.length i G2) 0
    ⟨Nat.zero_le _, (by simp only [FB, Nat.reduceEqDiff]), (by simp only [FB, Nat.reduceEqDiff]), (by simp only [FB, Nat.reduceEqDiff]), (by simp only [FB, Nat.reduceEqDiff]), (by simp only [FB, Nat.reduceEqDiff]), (by simp only [FB, Nat.reduceEqDiff]), by rfl, hrow0 _ (by rw [List.length_map, List.length_range])⟩ ?_
  · rintro i fr G2 ⟨hi, g2, g3, g4, g5, g19, g20, g21, ⟨rest, hrl, hrow⟩, sm2, ss2, old2, len2⟩ hN
    rw [Ret_code l38_2.eq_1]
    refine Ret_pad ?_
    by_cases hlt : i < S.length
    · have hld := fun X => (ss2.app X).loadCells encN_len hlt
      have hidx := fun c (k : IntKind) (H1 : Heap) => ss2.idx (c := c) (k := k) (H1 := H1) hlt
      have hw1 : IntKind.i64.wrap ((i : Int) + 1) = ((i + 1 : Nat) : Int) := wrap_nat (by omega)
      have hf : FineE (gt S i) := hS.2 _ (gt_mem hlt)
      have hco := fun X (mp : Bool) (lim : Nat) (Q : Value → Heap → Prop) => correct_ok (mp := mp) (lim := lim) (Q := Q) (sm2.app X) cmo (by omega) hMk hf
      have hlG : lim ≤ G2.length := by omega
      have hevi := evOf_gt (M := M) hlt
      generalize hsx : gt S i = s at *
      generalize htx : timeN M s = t at *
      have hse : setAll [Value.int .i64 0, .int .i64 0, .int .i64 0, .int .u8 0, .int .i64 0, .int .i64 0, .int .i64 0] 0 (encN s) = [.int .i64 s.item, .int .i64 s.place, .int .i64 s.scanner, .int .u8 s.kind, .int .i64 s.at', .int .i64 s.seen, .int .i64 0] := rfl
      have hev : [Value.int .i64 s.item, .int .i64 s.place, .int .i64 s.scanner, .int .u8 s.kind, .int .i64 s.at', .int .i64 s.seen, .int .i64 t] = encE { s with time := t } := rfl
      generalize hex : { s with time := t } = e at *
      have hti : ((evOf M S).take i).length = i := by rw [List.length_take, evOf_len]; omega
      obtain ⟨G3, e3, h3, m3⟩ := mut_set (G := G2) (R := G.length) len2 (.cells false ((((evOf M S).take i) ++ [e]).flatMap encE ++ rest.drop 7))
      have happ := append_room1 (lim := lim) (R := G.length) (bytes := 56) (cap := S.length) (k := 1) (b := G2.length + 1) (dest := some (G2.length + 2)) (H := G2 ++ [.cells false (encN s), .cells false (encE e), .dead]) (enc := encE) (old := (evOf M S).take i) (x := e) (ro := false) (rest := rest) encE_len (by decide)
        (by rw [hget_new]; rfl) (by rw [hget_old len2]; exact hrow) (by omega) (by rw [hti]; omega) (by rw [hti]; exact hrl) (by omega) (by rw [hti]; unfold maxBytes; omega)
      rw [hti, e3] at happ
      simp only [n38, r38, g2, g3, g4, g5, g19, g20, g21, int_lt_cast, hlt, hidx, hld, hlG, encN_len, encN_0, encN_1, encN_2, encN_3, encN_4, encN_5, take_all, setAll_full, hco, hw1, hse, hev, encE_len, happ, SB, Nat.reduceLT, callee, aOp, ne_eq, Nat.reduceEqDiff, aBin, aUn, if_true, if_false, reduceCtorEq, frame0, place, notTuple, Nat.reduceAdd, Nat.reduceLeDiff, resVal, dite_true, dite_false, Int.reduceEq, Int.reduceLT, Int.reduceLE]
      have l3 := m3.len
      have ho3 : ∀ j, j < H.length → hget (G3 ++ [.cells false (encN s), .cells false (encE e), .dead]) j = hget H j := fun j hj => by
        rw [hget_old (by omega), m3.other j (by omega)]; exact old2 j hj
      have sm3 : Sl G3 encK 3 pm M := Sl.same sm2 fun a ha hne => by
        subst ha
        have := sm.lt hne
        exact m3.other _ (by omega)
      refine hN (i + 1) _ _ ⟨by omega, (by simp only [g2, FB, Nat.reduceEqDiff]), (by simp only [g3, FB, Nat.reduceEqDiff]), (by simp only [g4, FB, Nat.reduceEqDiff]), (by simp only [FB, Nat.reduceEqDiff]), (by simp only [g19, FB, Nat.reduceEqDiff]), (by simp only [g20, FB, Nat.reduceEqDiff]), (by simp only [FB, Nat.reduceEqDiff]), ⟨⟨rest.drop 7, by rw [List.length_drop, hrl]; omega, ?_⟩, sm3.app _, hss _ ho3, ho3, by simp; omega⟩⟩ (by omega)
      rw [hget_old (by omega), h3, List.take_succ_eq_append_getElem (i := i) (by rw [evOf_len]; exact hlt), ← gt_lt, hevi]
    · obtain rfl : i = S.length := by omega
      have hr0 : rest = [] := by
        rw [Nat.sub_self, Nat.zero_mul] at hrl
        exact List.length_eq_zero_iff.mp hrl
      rw [hr0, List.append_nil, List.take_of_length_le (by rw [evOf_len]; exact Nat.le_refl _)] at hrow
      obtain ⟨G3, s1, s2, s3⟩ := sortE_ok (lim := lim) (cap := S.length) hrow (by omega) (by rw [evOf_len]; omega)
      rw [evOf_len] at s1
      have hevs : sortB keysE (evOf M S) = eventsN M S := rfl
      rw [hevs] at s2
      simp only [n38, r38, g2, g3, g4, g5, g19, g20, g21, int_lt_cast, hlt, s1, SB, Nat.reduceLT, callee, aOp, ne_eq, Nat.reduceEqDiff, aBin, aUn, if_true, if_false, reduceCtorEq, frame0, place, notTuple, Nat.reduceAdd, Nat.reduceLeDiff, resVal, dite_true, dite_false, Int.reduceEq, Int.reduceLT, Int.reduceLE]
      have hSM : siftN S = siftGo [] [] (eventsN M S) := by rw [← hM]; rfl
      generalize hEV : eventsN M S = EV at *
      have hEl : EV.length = S.length := by rw [← hEV, events_len]
      have l3 := s3.len
      have ho3 : ∀ j, j < H.length → hget G3 j = hget H j := fun j hj => by rw [s3.other j (by omega) (by simp; omega)]; exact old2 j hj
      have hft : ∀ x ∈ EV, 0 ≤ x.time ∧ x.time ≤ 1051898399 := fun x hx => by
        rw [← hEV] at hx
        obtain ⟨z, hz, rfl⟩ := events_mem.mp hx
        have hzf := hS.2 z hz
        have := time_in (M := M) hzf
        unfold FineE maxT at hzf
        simp only; omega
      have hBl := hget_alive s2
      refine Ret_rounds (S := Nat × List Ev × List Ev × List ((Int × Int × Int) × Int) × Option Addr × Option Addr × Nat × Nat) (fun s => S.length - s.1) (fun s fr G4 => s.1 ≤ S.length ∧ siftGo s.2.1 s.2.2.1 (EV.drop s.1) = siftN S ∧ s.2.1.length ≤ s.1 ∧ s.2.2.1.length ≤ s.1 ∧
        fr 2 = .slice s.2.2.2.2.1 s.2.1.length s.2.2.2.2.2.2.1 ∧ fr 3 = .slice s.2.2.2.2.2.1 s.2.2.1.length s.2.2.2.2.2.2.2 ∧ fr 8 = .map (some G3.length) ∧ fr 37 = .slice (some ⟨G.length, 0, none⟩) S.length S.length ∧ fr 38 = .int .i64 (S.length : Int) ∧ fr 39 = .int .i64 (s.1 : Int) ∧
        FSt H EV G.length G3.length s.2.1 s.2.2.1 s.2.2.2.1 s.2.2.2.2.1 s.2.2.2.2.2.1 s.2.2.2.2.2.2.1 s.2.2.2.2.2.2.2 G4) (0, [], [], [], none, none, 0, 0)
        ⟨Nat.zero_le _, by rw [List.drop_zero]; exact hSM.symm, Nat.le_refl _, Nat.le_refl _, (by simp only [g2, List.length_nil, FB, Nat.reduceEqDiff]), (by simp only [g3, List.length_nil, FB, Nat.reduceEqDiff]), (by simp only [FB, Nat.reduceEqDiff]), (by simp only [FB, Nat.reduceEqDiff]), (by simp only [FB, Nat.reduceEqDiff]), by rfl, ⟨by rw [hget_new0]; rfl, by rw [hget_old hBl]; exact s2, .inl ⟨rfl, rfl, rfl⟩, .inl ⟨rfl, rfl, rfl⟩, fun a b h => (by cases h), fun j hj => by rw [hget_old (by omega)]; exact ho3 j hj, by simp, fun e => rfl, fun x hx => (List.not_mem_nil hx).elim⟩⟩ ?_
      rintro ⟨i, kr, tr, es, kp, tp, kc, tc⟩ fr4 G4 ⟨hi4, hsf, hkl, htl, f2, f3, f8, f37, f38, f39, st⟩ hM4
      simp only at hi4 hsf hkl htl f2 f3 f39 st
      rw [Ret_code l38_1.eq_1]
      refine Ret_pad ?_
      by_cases hlt4 : i < S.length
      · have hiE : i < EV.length := by omega
        have hse4 : Sl G4 encE 7 (some ⟨G.length, 0, none⟩) EV := Sl.row encE_len st.ev
        have hld4 := fun X => (hse4.app X).loadCells encE_len hiE
        have hidx4 : ∀ (c : Nat) (k : IntKind) (H1 : Heap), idxK 7 (.slice (some ⟨G.length, 0, none⟩) S.length c) (.int k (i : Int)) H1 = some (.pointer (some (elt (some ⟨G.length, 0, none⟩) 7 i)), H1) := fun c k H1 => by
          rw [← hEl]; exact hse4.idx hiE
        have hw4 : IntKind.i64.wrap ((i : Int) + 1) = ((i + 1 : Nat) : Int) := wrap_nat (by omega)
        have heE : gt EV i ∈ EV := gt_mem hiE
        have hdr : EV.drop i = gt EV i :: EV.drop (i + 1) := by rw [List.drop_eq_getElem_cons hiE, gt_lt hiE]
        rw [hdr] at hsf
        have hrel := st.rel (gt EV i)
        generalize hex : gt EV i = e at *
        have hk : keyOk (.ints [.i64, .i64, .u8]) (.agg #[.int .i64 e.item, .int .i64 e.place, .int .u8 e.kind]) = true := kS_ok (k := sight e)
        have hfk := findKey_enc (vv := vI) kS_eq (sight e) es 0
        have hkey : kS (sight e) = .agg #[.int .i64 e.item, .int .i64 e.place, .int .u8 e.kind] := rfl
        rw [hkey] at hfk
        have hget' := fk_get (sight e) es 0
        have gmX : ∀ X, hget (G4 ++ X) G3.length = .map (encM kS vI es) := fun X => by rw [hget_old st.len]; exact st.mp
        have hlG4 : lim ≤ G4.length := by have := st.len; omega
        have hlG3 : lim ≤ G3.length := by omega
        have KEPT : ∀ (em : List (Value × Value)), em = encM kS vI (putK (sight e) e.time es) →
            ∃ G1, (∀ X : Heap, (G4 ++ X).set G3.length (.map em) = G1 ++ X) ∧ (∀ Y, hget (G1 ++ .cells false (encE e) :: Y) G4.length = .cells false (encE e)) ∧ ∃ G', aAppend lim none 7 56 false (.slice kp kr.length kc) (.slice (some ⟨G1.length + 2, 0, none⟩) 1 1) (G1 ++ [.cells false (encE e), .cells false [.int .i64 e.item, .int .i64 e.place, .int .u8 e.kind], .cells false (encE e)]) = some (.slice (some ⟨G1.length + 3, 0, none⟩) (kr.length + 1) (loose 7), G' ++ []) ∧
              FSt H EV G.length G3.length (e :: kr) tr (putK (sight e) e.time es) (some ⟨G1.length + 3, 0, none⟩) tp (loose 7) tc (G' ++ []) := by
          intro em hem
          subst hem
          obtain ⟨G1, e1, G', e2, st', l1⟩ := st.kept hl (by omega) (by omega) e heE (by omega) (.cells false (encE e)) (.cells false [.int .i64 e.item, .int .i64 e.place, .int .u8 e.kind])
          exact ⟨G1, e1, fun Y => by rw [← l1]; exact hget_new0, G', e2, st'⟩
        obtain ⟨GT, e2T, stT⟩ := st.twice hl (by omega) (by omega) e (by omega) (.cells false (encE e)) (.cells false [.int .i64 e.item, .int .i64 e.place, .int .u8 e.kind])
        cases hc : fk (sight e) es 0 with
        | none =>
          rw [hc] at hfk hget'
          simp only [Option.map_none] at hfk hget'
          have hput := fk_none (v' := e.time) hc
          have htw : twiceB e kr = false := by
            unfold twiceB
            rw [← hget'] at hrel
            cases hq : lastK e kr with
            | none => rfl
            | some z => rw [hq] at hrel; cases hrel
          obtain ⟨G1, e1, R1, G', e2, fin⟩ := KEPT (encM kS vI es ++ [(.agg #[.int .i64 e.item, .int .i64 e.place, .int .u8 e.kind], .int .i64 e.time)]) (by rw [← hput]; simp only [encM, List.map_append, List.map_cons, List.map_nil]; rfl)
          simp only [n38, r38, f2, f3, f8, f37, f38, f39, int_lt_cast, hlt4, hidx4, hld4, hlG4, hlG3, encE_len, encE_0, encE_1, encE_2, encE_3, encE_4, encE_5, encE_6, take_all, setAll_full, hw4, gmX, hk, hfk, e1, R1, e2, SB, Nat.reduceLT, callee, aOp, ne_eq, Nat.reduceEqDiff, aBin, aUn, if_true, if_false, reduceCtorEq, frame0, place, notTuple, Nat.reduceAdd, Nat.reduceLeDiff, resVal, dite_true, dite_false, Int.reduceEq, Int.reduceLT, Int.reduceLE]
          exact hM4 (i + 1, e :: kr, tr, putK (sight e) e.time es, some ⟨G1.length + 3, 0, none⟩, tp, loose 7, tc) _ _ ⟨by simp only; omega, by rw [← hsf, siftGo, htw]; rfl, by simp only [List.length_cons]; omega, by simp only; omega, (by simp only [List.length_cons, FB, Nat.reduceEqDiff]), (by simp only [f3, FB, Nat.reduceEqDiff]), (by simp only [f8, FB, Nat.reduceEqDiff]), (by simp only [f37, FB, Nat.reduceEqDiff]), (by simp only [f38, FB, Nat.reduceEqDiff]), (by simp only [FB, Nat.reduceEqDiff]), fin⟩ (by simp only; omega)
        | some x =>
          obtain ⟨j, v⟩ := x
          rw [hc] at hfk hget'
          simp only [Option.map_some] at hfk hget'
          have hput := (fk_some (v' := e.time) hc).2.2
          rw [Nat.sub_zero] at hput
          rw [← hget'] at hrel
          cases hq : lastK e kr with
          | none => rw [hq] at hrel; cases hrel
          | some z =>
          rw [hq] at hrel
          have hvz : v = z.time := by simpa using hrel
          have hz := hft z (st.sub z (lastK_some hq).1)
          have hte := hft e heE
          have hvi : vI v = .int .i64 z.time := by rw [hvz]; rfl
          rw [hvi] at hfk
          have wd : IntKind.i64.wrap (e.time - z.time) = e.time - z.time := wrap_id (by omega) (by omega)
          by_cases hd : e.time - z.time ≤ 10
          · have htw : twiceB e kr = true := twiceB_true.mpr ⟨z, hq, hd⟩
            simp only [n38, r38, f2, f3, f8, f37, f38, f39, int_lt_cast, hlt4, hidx4, hld4, hlG4, hlG3, encE_len, encE_0, encE_1, encE_2, encE_3, encE_4, encE_5, encE_6, take_all, setAll_full, hw4, gmX, hk, hfk, wd, eq_true hd, e2T, SB, Nat.reduceLT, callee, aOp, ne_eq, Nat.reduceEqDiff, aBin, aUn, if_true, if_false, reduceCtorEq, frame0, place, notTuple, Nat.reduceAdd, Nat.reduceLeDiff, resVal, dite_true, dite_false, Int.reduceEq, Int.reduceLT, Int.reduceLE]
            exact hM4 (i + 1, kr, e :: tr, es, kp, some ⟨G4.length + 3, 0, none⟩, kc, loose 7) _ _ ⟨by simp only; omega, by rw [← hsf, siftGo, htw]; rfl, by simp only; omega, by simp only [List.length_cons]; omega, (by simp only [f2, FB, Nat.reduceEqDiff]), (by simp only [List.length_cons, FB, Nat.reduceEqDiff]), (by simp only [f8, FB, Nat.reduceEqDiff]), (by simp only [f37, FB, Nat.reduceEqDiff]), (by simp only [f38, FB, Nat.reduceEqDiff]), (by simp only [FB, Nat.reduceEqDiff]), stT⟩ (by simp only; omega)
          · have htw : twiceB e kr = false := by unfold twiceB; rw [hq]; exact decide_eq_false hd
            obtain ⟨G1, e1, R1, G', e2, fin⟩ := KEPT ((encM kS vI es).set j (.agg #[.int .i64 e.item, .int .i64 e.place, .int .u8 e.kind], .int .i64 e.time)) (by rw [← hput]; simp only [encM, List.map_set]; rfl)
            simp only [n38, r38, f2, f3, f8, f37, f38, f39, int_lt_cast, hlt4, hidx4, hld4, hlG4, hlG3, encE_len, encE_0, encE_1, encE_2, encE_3, encE_4, encE_5, encE_6, take_all, setAll_full, hw4, gmX, hk, hfk, wd, eq_false hd, e1, R1, e2, SB, Nat.reduceLT, callee, aOp, ne_eq, Nat.reduceEqDiff, aBin, aUn, if_true, if_false, reduceCtorEq, frame0, place, notTuple, Nat.reduceAdd, Nat.reduceLeDiff, resVal, dite_true, dite_false, Int.reduceEq, Int.reduceLT, Int.reduceLE]
            exact hM4 (i + 1, e :: kr, tr, putK (sight e) e.time es, some ⟨G1.length + 3, 0, none⟩, tp, loose 7, tc) _ _ ⟨by simp only; omega, by rw [← hsf, siftGo, htw]; rfl, by simp only [List.length_cons]; omega, by simp only; omega, (by simp only [List.length_cons, FB, Nat.reduceEqDiff]), (by simp only [f3, FB, Nat.reduceEqDiff]), (by simp only [f8, FB, Nat.reduceEqDiff]), (by simp only [f37, FB, Nat.reduceEqDiff]), (by simp only [f38, FB, Nat.reduceEqDiff]), (by simp only [FB, Nat.reduceEqDiff]), fin⟩ (by simp only; omega)
      · obtain rfl : i = S.length := by omega
        rw [← hEl, List.drop_length] at hsf
        have hk1 : kr.reverse = (siftN S).1 := congrArg Prod.fst hsf
        have ht1 : tr.reverse = (siftN S).2 := congrArg Prod.snd hsf
        have ko := st.ko
        have to := st.to
        have lk : kr.length = (siftN S).1.length := by rw [← hk1, List.length_reverse]
        have lt : tr.length = (siftN S).2.length := by rw [← ht1, List.length_reverse]
        rw [hk1] at ko
        rw [ht1] at to
        rw [lk] at f2
        rw [lt] at f3
        simp only [n38, r38, f2, f3, f38, f39, int_lt_cast, hlt4, SB, Nat.reduceLT, callee, aOp, ne_eq, Nat.reduceEqDiff, aBin, aUn, if_true, if_false, reduceCtorEq, frame0, place, notTuple, Nat.reduceAdd, Nat.reduceLeDiff, resVal, dite_true, dite_false, Int.reduceEq, Int.reduceLT, Int.reduceLE]
        refine hQ G4 kp kc tp tc (ko.le (by omega)) (to.le (by omega)) st.ne ⟨by have := st.len; omega, fun j hj _ => st.old j hj⟩
theorem rightL_f [OB] {mp : Bool} {lim c : Nat} {p : Option Addr} {S : List Ev} {H : Heap} {Q : Value → Heap → Prop} (hs : Sl H encN 6 p S) (hn : S.length < 2 ^ 63) :
    CallR Ef mp lim 25 [.slice p S.length c] H Q = Q (.bool (decide (RightL S))) H := CallR.eqF (by rw [rightL_ok hs hn]; exact ⟨rfl, rfl⟩)
theorem Time_f [OB] {mp : Bool} {lim c : Nat} {p : Option Addr} {M : List Mk} {s : Ev} {H : Heap} {Q : Value → Heap → Prop} (hs : Sl H encK 3 p M) (hc : CapOk 3 c M.length) (hn : M.length < 2 ^ 40) :
    CallR Ef mp lim 12 [.slice p M.length c, .agg (encN s).toArray] H Q = Q (if FineE s ∧ MarksOk M then .tuple #[.int .i64 (timeN M s), .int .i64 0] else .tuple #[.int .i64 0, .int .i64 2]) H := CallR.eqF (by rw [Time_ok hs hc hn]; exact ⟨rfl, rfl⟩)
theorem Marks_ok [OB] {lim c : Nat} {p : Option Addr} {S : List Ev} {H : Heap} {Q : Value → Heap → Prop} (hs : Sl H encN 6 p S) (hS : RightL S) (hl : lim ≤ H.length)
    (hQ : ∀ G p' c', Sl G encK 3 p' (gatherN S) → CapOk 3 c' (gatherN S).length → Chg [] H G → Q (.tuple #[.slice p' (gatherN S).length c', .int .i64 0]) (G ++ [])) :
    CallR Ef false lim 20 [.slice p S.length c] H Q := by
  refine runsF (by decide) e20 rfl ?_
  rw [b20, c20]
  have hr := fun (X : Heap) (mp : Bool) (lim : Nat) (Q : Value → Heap → Prop) => rightL_f (mp := mp) (lim := lim) (Q := Q) (c := c) (hs.app X) (by have := hS.1; omega)
  simp only [n20, r20, hr, decide_eq_true hS, SB, Nat.reduceLT, callee, aOp, ne_eq, Nat.reduceEqDiff, aBin, aUn, if_true, if_false, reduceCtorEq, frame0, place, notTuple, Nat.reduceAdd, Nat.reduceLeDiff, resVal, dite_true, dite_false, Int.reduceEq, Int.reduceLT, Int.reduceLE]
  rw [List.append_nil]
  refine gather_ok hs hS hl fun G p' c' h1 h2 h3 => ?_
  simp only [n20, r20, SB, Nat.reduceLT, callee, aOp, ne_eq, Nat.reduceEqDiff, aBin, aUn, if_true, if_false, reduceCtorEq, frame0, place, notTuple, Nat.reduceAdd, Nat.reduceLeDiff, resVal, dite_true, dite_false, Int.reduceEq, Int.reduceLT, Int.reduceLE]
  exact hQ G p' c' h1 h2 h3
theorem Order_ok [OB] {lim c : Nat} {p : Option Addr} {S : List Ev} {H : Heap} {Q : Value → Heap → Prop} (hs : Sl H encN 6 p S) (hS : RightL S) (hl : lim ≤ H.length)
    (hQ : ∀ G kp kc, Own H.length G encE 7 kp kc (siftN S).1 → Chg [] H G → Q (.tuple #[.slice kp (siftN S).1.length kc, .int .i64 0]) (G ++ [])) :
    CallR Ef false lim 19 [.slice p S.length c] H Q := by
  refine runsF (by decide) e19 rfl ?_
  rw [b19, c19]
  have hr := fun (X : Heap) (mp : Bool) (lim : Nat) (Q : Value → Heap → Prop) => rightL_f (mp := mp) (lim := lim) (Q := Q) (c := c) (hs.app X) (by have := hS.1; omega)
  simp only [n19, r19, hr, decide_eq_true hS, SB, Nat.reduceLT, callee, aOp, ne_eq, Nat.reduceEqDiff, aBin, aUn, if_true, if_false, reduceCtorEq, frame0, place, notTuple, Nat.reduceAdd, Nat.reduceLeDiff, resVal, dite_true, dite_false, Int.reduceEq, Int.reduceLT, Int.reduceLE]
  rw [List.append_nil]
  refine sift_ok hs hS hl fun G kp kc tp tc h1 h2 h3 h4 => ?_
  simp only [n19, r19, SB, Nat.reduceLT, callee, aOp, ne_eq, Nat.reduceEqDiff, aBin, aUn, if_true, if_false, reduceCtorEq, frame0, place, notTuple, Nat.reduceAdd, Nat.reduceLeDiff, resVal, dite_true, dite_false, Int.reduceEq, Int.reduceLT, Int.reduceLE]
  exact hQ G kp kc h1 h4
theorem Doubled_ok [OB] {lim c : Nat} {p : Option Addr} {S : List Ev} {H : Heap} {Q : Value → Heap → Prop} (hs : Sl H encN 6 p S) (hS : RightL S) (hl : lim ≤ H.length)
    (hQ : ∀ G tp tc, Own H.length G encE 7 tp tc (siftN S).2 → Chg [] H G → Q (.tuple #[.slice tp (siftN S).2.length tc, .int .i64 0]) (G ++ [])) :
    CallR Ef false lim 23 [.slice p S.length c] H Q := by
  refine runsF (by decide) e23 rfl ?_
  rw [b23, c23]
  have hr := fun (X : Heap) (mp : Bool) (lim : Nat) (Q : Value → Heap → Prop) => rightL_f (mp := mp) (lim := lim) (Q := Q) (c := c) (hs.app X) (by have := hS.1; omega)
  simp only [n23, r23, hr, decide_eq_true hS, SB, Nat.reduceLT, callee, aOp, ne_eq, Nat.reduceEqDiff, aBin, aUn, if_true, if_false, reduceCtorEq, frame0, place, notTuple, Nat.reduceAdd, Nat.reduceLeDiff, resVal, dite_true, dite_false, Int.reduceEq, Int.reduceLT, Int.reduceLE]
  rw [List.append_nil]
  refine sift_ok hs hS hl fun G kp kc tp tc h1 h2 h3 h4 => ?_
  simp only [n23, r23, SB, Nat.reduceLT, callee, aOp, ne_eq, Nat.reduceEqDiff, aBin, aUn, if_true, if_false, reduceCtorEq, frame0, place, notTuple, Nat.reduceAdd, Nat.reduceLeDiff, resVal, dite_true, dite_false, Int.reduceEq, Int.reduceLT, Int.reduceLE]
  exact hQ G tp tc h2 h4
theorem one_ok [OB] {mp : Bool} {lim : Nat} {a b d : Int} {H : Heap} {Q : Value → Heap → Prop} : CallR E mp lim 22 [.int .i64 a, .int .i64 b, .int .i64 d] H Q = Q (.agg (encN (oneS a b d)).toArray) H := by
  refine pc (by decide) e22 rfl rfl ?_
  rw [b22, c22]
  simp only [n22, r22, SB, Nat.reduceLT, callee, aOp, ne_eq, Nat.reduceEqDiff, aBin, aUn, if_true, if_false, reduceCtorEq, frame0, place, notTuple, Nat.reduceAdd, Nat.reduceLeDiff, resVal, dite_true, dite_false, Int.reduceEq, Int.reduceLT, Int.reduceLE]
  rfl
theorem one_f [OB] {mp : Bool} {lim : Nat} {a b d : Int} {H : Heap} {Q : Value → Heap → Prop} : CallR Ef mp lim 22 [.int .i64 a, .int .i64 b, .int .i64 d] H Q = Q (.agg (encN (oneS a b d)).toArray) H := CallR.eqF (by rw [one_ok]; exact ⟨rfl, rfl⟩)
def L1 : List Ev := [oneS 1 60 400, oneS 1 50 150, oneS 1 2000 2140]
def L2 : List Ev := [oneS 1 160 160, oneS 2 150 150]
def L3 : List Ev := [oneS 1 161 161, oneS 2 150 150]
def M1 : List Mk := [⟨1, 50, 100⟩, ⟨1, 2000, 140⟩]
theorem L1_right : RightL L1 := by decide
theorem L2_right : RightL L2 := by decide
theorem L3_right : RightL L3 := by decide
theorem M1_ok : MarksOk M1 := by unfold MarksOk M1; decide
theorem L1_marks : gatherN L1 = M1 := ex_1
theorem L1_kept : (siftN L1).1 = [⟨7, 3, 1, 1, 50, 150, 150⟩, ⟨7, 3, 1, 1, 2000, 2140, 2140⟩] := by decide
theorem L2_kept : (siftN L2).1 = [⟨7, 3, 2, 1, 150, 150, 150⟩] := by decide
theorem L3_kept : (siftN L3).1 = [⟨7, 3, 2, 1, 150, 150, 150⟩, ⟨7, 3, 1, 1, 161, 161, 161⟩] := by decide
theorem idx0 {α : Type} {H : Heap} {enc : α → List Value} {e n c : Nat} {p : Option Addr} {l : List α} (hs : Sl H enc e p l) (hl : l.length = n) (h : 0 < n) (k : IntKind) (H1 : Heap) : idxK e (.slice p n c) (.int k 0) H1 = some (.pointer (some (elt p e 0)), H1) := by
  subst hl
  have := hs.idx (c := c) (k := k) (H1 := H1) h
  exact this
theorem idx1 {α : Type} {H : Heap} {enc : α → List Value} {e n c : Nat} {p : Option Addr} {l : List α} (hs : Sl H enc e p l) (hl : l.length = n) (h : 1 < n) (k : IntKind) (H1 : Heap) : idxK e (.slice p n c) (.int k 1) H1 = some (.pointer (some (elt p e 1)), H1) := by
  subst hl
  have := hs.idx (c := c) (k := k) (H1 := H1) h
  exact this
theorem awake_go [OB] {lim : Nat} {H : Heap} {Q : Value → Heap → Prop} (hoff : OB.on 11 = false) : CallR Ef false lim 11 [] H Q = Q (.bool true) H := by
  have ho : Ef.orc 11 [] = none := by simp [Ef, orc, hoff]
  refine CallR_pure (E := Ef) ho e11 rfl rfl (Ret_pad ?_)
  rw [b11, c11]
  simp only [n11, r11, one_f, encN, oneS, SB, Nat.reduceLT, callee, aOp, ne_eq, Nat.reduceEqDiff, aBin, aUn, if_true, if_false, reduceCtorEq, frame0, place, notTuple, Nat.reduceAdd, Nat.reduceLeDiff, resVal, dite_true, dite_false, Int.reduceEq, Int.reduceLT, Int.reduceLE]
  have sl1 : ∀ (G : Heap) (b : Nat), hget G b = .cells false (L1.flatMap encN) → Sl G encN 6 (some ⟨b, 0, none⟩) L1 := fun G b h => Sl.row encN_len h
  have hs1 : Sl (H ++ [.cells false (L1.flatMap encN)]) encN 6 (some ⟨H.length, 0, none⟩) L1 := sl1 _ _ (by rw [hget_new0]; rfl)
  refine Marks_ok (S := L1) hs1 L1_right (by simp) fun G1 p1 c1 sm1 cm1 hC1 => ?_
  have hlen1 := hC1.len
  rw [L1_marks] at sm1 cm1 ⊢
  have hs2 := hC1.sl hs1 (fun a _ _ h => (by cases h))
  have fA : FineE (oneS 1 60 400) := by decide
  have fB : FineE (oneS 1 1025 5000) := by decide
  have fC : FineE (oneS 2 60 400) := by decide
  have tA := fun X (mp : Bool) (lim : Nat) (Q : Value → Heap → Prop) => Time_f (mp := mp) (lim := lim) (Q := Q) (s := oneS 1 60 400) (sm1.app X) cm1 (by decide)
  have tB := fun X (mp : Bool) (lim : Nat) (Q : Value → Heap → Prop) => Time_f (mp := mp) (lim := lim) (Q := Q) (s := oneS 1 1025 5000) (sm1.app X) cm1 (by decide)
  have tC := fun X (mp : Bool) (lim : Nat) (Q : Value → Heap → Prop) => Time_f (mp := mp) (lim := lim) (Q := Q) (s := oneS 2 60 400) (sm1.app X) cm1 (by decide)
  have vA : timeN M1 (oneS 1 60 400) = 160 := ex_2
  have vB : timeN M1 (oneS 1 1025 5000) = 1145 := ex_3
  have vC : timeN M1 (oneS 2 60 400) = 60 := ex_4
  simp only [if_pos (And.intro fA M1_ok), vA] at tA
  simp only [if_pos (And.intro fB M1_ok), vB] at tB
  simp only [if_pos (And.intro fC M1_ok), vC] at tC
  simp only [n11, r11, one_f, tA, tB, tC, SB, Nat.reduceLT, callee, aOp, ne_eq, Nat.reduceEqDiff, aBin, aUn, if_true, if_false, reduceCtorEq, frame0, place, notTuple, Nat.reduceAdd, Nat.reduceLeDiff, resVal, dite_true, dite_false, Int.reduceEq, Int.reduceLT, Int.reduceLE]
  rw [List.append_nil]
  refine Order_ok (S := L1) hs2 L1_right (by simp at hlen1; omega) fun G2 p2 c2 hO2 hC2 => ?_
  have hl1 : (siftN L1).1.length = 2 := by rw [L1_kept]; rfl
  have sk1 := hO2.sl encE_len
  have g10 : gt (siftN L1).1 0 = ⟨7, 3, 1, 1, 50, 150, 150⟩ := by rw [L1_kept]; rfl
  have g11 : gt (siftN L1).1 1 = ⟨7, 3, 1, 1, 2000, 2140, 2140⟩ := by rw [L1_kept]; rfl
  have sm2 := hC2.sl sm1 (fun a _ _ h => (by cases h))
  have lM : M1.length = 2 := rfl
  have m0 := fun X => (sm2.app X).loadCells encK_len (i := 0) (by decide)
  have m1 := fun X => (sm2.app X).loadCells encK_len (i := 1) (by decide)
  have gM0 : gt M1 0 = ⟨1, 50, 100⟩ := rfl
  have gM1 : gt M1 1 = ⟨1, 2000, 140⟩ := rfl
  rw [gM0] at m0
  rw [gM1] at m1
  have q0 := fun X => (sk1.app X).loadCell encE_len (i := 0) (j := 6) (by omega) (by decide)
  have q1 := fun X => (sk1.app X).loadCell encE_len (i := 1) (j := 6) (by omega) (by decide)
  rw [g10] at q0
  rw [g11] at q1
  have im0 := fun (c : Nat) => idx0 (c := c) sm2 lM (by decide)
  have im1 := fun (c : Nat) => idx1 (c := c) sm2 lM (by decide)
  have ik0 := fun (c : Nat) => idx0 (c := c) sk1 hl1 (by decide)
  have ik1 := fun (c : Nat) => idx1 (c := c) sk1 hl1 (by decide)
  have eqA : aEq (.agg [.int .i64, .int .i64, .int .i64]) (.agg (encK ⟨1, 50, 100⟩).toArray) (.agg #[.int .i64 1, .int .i64 50, .int .i64 100]) = some true := rfl
  have eqB : aEq (.agg [.int .i64, .int .i64, .int .i64]) (.agg (encK ⟨1, 2000, 140⟩).toArray) (.agg #[.int .i64 1, .int .i64 2000, .int .i64 140]) = some true := rfl
  have w0 : IntKind.i64.wrap 0 = 0 := by decide
  have wz : IntKind.i64.wrap (0 + 0) = 0 := by decide
  have c2' : ((2 : Nat) : Int) = 2 := rfl
  rw [hl1]
  simp only [n11, r11, one_f, encN, oneS, lM, im0, im1, ik0, ik1, m0, m1, q0, q1, encE_len, encE_0, encE_1, encE_2, encE_3, encE_4, encE_5, encE_6, eqA, eqB, w0, wz, c2', Int.add_zero, SB, Nat.reduceLT, callee, aOp, ne_eq, Nat.reduceEqDiff, aBin, aUn, if_true, if_false, reduceCtorEq, frame0, place, notTuple, Nat.reduceAdd, Nat.reduceLeDiff, resVal, dite_true, dite_false, Int.reduceEq, Int.reduceLT, Int.reduceLE]
  have sl2 : ∀ (S : List Ev) (G : Heap) (b : Nat), hget G b = .cells false (S.flatMap encN) → Sl G encN 6 (some ⟨b, 0, none⟩) S := fun S G b h => Sl.row encN_len h
  have hlen2 := hC2.len
  simp only [List.length_append, List.length_cons, List.length_nil] at hlen1
  refine Order_ok (S := L2) (sl2 L2 (G2 ++ [.cells false (L2.flatMap encN)]) G2.length (by rw [hget_new0]; rfl)) L2_right (by simp; omega) fun G3 p3 c3 hO3 hC3 => ?_
  have hlen3 := hC3.len
  simp only [List.length_append, List.length_cons, List.length_nil] at hlen3
  have hl2 : (siftN L2).1.length = 1 := by rw [L2_kept]; rfl
  have sk2 := hO3.sl encE_len
  have g20 : gt (siftN L2).1 0 = ⟨7, 3, 2, 1, 150, 150, 150⟩ := by rw [L2_kept]; rfl
  rw [hl2]
  simp only [n11, r11, one_f, encN, oneS, SB, Nat.reduceLT, callee, aOp, ne_eq, Nat.reduceEqDiff, aBin, aUn, if_true, if_false, reduceCtorEq, frame0, place, notTuple, Nat.reduceAdd, Nat.reduceLeDiff, resVal, dite_true, dite_false, Int.reduceEq, Int.reduceLT, Int.reduceLE]
  refine Order_ok (S := L3) (sl2 L3 (G3 ++ [.cells false (L3.flatMap encN)]) G3.length (by rw [hget_new0]; rfl)) L3_right (by simp; omega) fun G4 p4 c4 hO4 hC4 => ?_
  have hl3 : (siftN L3).1.length = 2 := by rw [L3_kept]; rfl
  have sk3 := hC4.sl (sk2.app _) (fun a _ _ h => (by cases h))
  have r0 := fun X => (sk3.app X).loadCell encE_len (i := 0) (j := 6) (by omega) (by decide)
  rw [g20] at r0
  have ir0 := fun (c : Nat) => idx0 (c := c) sk3 hl2 (by decide)
  have c1' : ((1 : Nat) : Int) = 1 := rfl
  rw [hl3]
  simp only [n11, r11, ir0, r0, encE_len, encE_0, encE_1, encE_2, encE_3, encE_4, encE_5, encE_6, w0, wz, c1', c2', Int.add_zero, SB, Nat.reduceLT, callee, aOp, ne_eq, Nat.reduceEqDiff, aBin, aUn, if_true, if_false, reduceCtorEq, frame0, place, notTuple, Nat.reduceAdd, Nat.reduceLeDiff, resVal, dite_true, dite_false, Int.reduceEq, Int.reduceLT, Int.reduceLE]
structure Fo where
  (item place scanner kind at' late : Int)
  deriving Inhabited
def encF (f : Fo) : List Value := [.int .u8 f.item, .int .u8 f.place, .int .u8 f.scanner, .int .u8 f.kind, .int .u16 f.at', .int .u8 f.late]
theorem encF_len (f : Fo) : (encF f).length = 6 := id rfl
theorem encF_0 {f : Fo} : (encF f)[0]? = some (.int .u8 f.item) := id rfl
theorem encF_1 {f : Fo} : (encF f)[1]? = some (.int .u8 f.place) := id rfl
theorem encF_2 {f : Fo} : (encF f)[2]? = some (.int .u8 f.scanner) := id rfl
theorem encF_3 {f : Fo} : (encF f)[3]? = some (.int .u8 f.kind) := id rfl
theorem encF_4 {f : Fo} : (encF f)[4]? = some (.int .u16 f.at') := id rfl
theorem encF_5 {f : Fo} : (encF f)[5]? = some (.int .u8 f.late) := id rfl
def FoOk (f : Fo) : Prop := (0 ≤ f.item ∧ f.item ≤ 255) ∧ (0 ≤ f.place ∧ f.place ≤ 255) ∧ (0 ≤ f.scanner ∧ f.scanner ≤ 255) ∧ (0 ≤ f.kind ∧ f.kind ≤ 255) ∧ (0 ≤ f.at' ∧ f.at' ≤ 65535) ∧ (0 ≤ f.late ∧ f.late ≤ 255)
def encB (n : Int) : List Value := [.int .i8 n]
theorem encB_len (n : Int) : (encB n).length = 1 := id rfl
def ClOk (C : List Int) : Prop := ∀ c ∈ C, -128 ≤ c ∧ c ≤ 127
def behN (C : List Int) (sc : Int) : Int := if sc - 1 < C.length then gt C (sc - 1).toNat else 0
theorem behN_in {C : List Int} (h : ClOk C) {sc : Int} (h1 : 1 ≤ sc) : -128 ≤ behN C sc ∧ behN C sc ≤ 127 := by
  unfold behN
  split
  · exact h _ (gt_mem (by omega))
  · omega
def madeAt (f : Fo) : Int := 14400 + f.at' % 5760
def madeS (C : List Int) (f : Fo) : Ev := ⟨1 + f.item % 4, 1 + f.place % 4, 1 + f.scanner % 4, 1 + f.kind % 4, madeAt f - behN C (1 + f.scanner % 4), madeAt f + f.late, 0⟩
def builtS (C : List Int) (F : List Fo) : List Ev := (F.take 24).map (madeS C)
def builtT (F : List Fo) : List Int := (F.take 24).map madeAt
theorem madeS_fine {C : List Int} {f : Fo} (hC : ClOk C) (hf : FoOk f) : FineE (madeS C f) := by
  have hb := behN_in hC (sc := 1 + f.scanner % 4) (by omega)
  unfold FoOk at hf
  unfold FineE madeS madeAt maxT
  simp only
  generalize behN C (1 + f.scanner % 4) = q at *
  omega
theorem builtS_right {C : List Int} {F : List Fo} (hC : ClOk C) (hF : ∀ f ∈ F, FoOk f) : RightL (builtS C F) := by
  refine ⟨by unfold builtS; rw [List.length_map, List.length_take]; omega, fun s hs => ?_⟩
  unfold builtS at hs
  obtain ⟨f, hf, rfl⟩ := List.mem_map.mp hs
  exact madeS_fine hC (hF f (List.mem_of_mem_take hf))
theorem behind_ok [OB] {mp : Bool} {lim cc : Nat} {p : Option Addr} {C : List Int} {sc : Int} {H : Heap} {Q : Value → Heap → Prop} (hs : Sl H encB 1 p C) (hC : ClOk C) (hn : C.length < 2 ^ 63) (h1 : 1 ≤ sc) (h2 : sc ≤ 4) :
    CallR E mp lim 18 [.slice p C.length cc, .int .i64 sc] H Q = Q (.int .i64 (behN C sc)) H := by
  refine pc (by decide) e18 rfl rfl ?_
  rw [b18, c18]
  have w1 : IntKind.i64.wrap (sc - 1) = ((sc - 1).toNat : Int) := by rw [wrap_id (by omega) (by omega)]; omega
  have hin := behN_in hC h1
  unfold behN at hin ⊢
  by_cases hlt : sc - 1 < (C.length : Int)
  · rw [if_pos hlt] at hin ⊢
    have hi : (sc - 1).toNat < C.length := by omega
    have hld := fun X => (hs.app X).loadCell0 encB_len hi (by decide)
    have hidx := fun c (k : IntKind) (H1 : Heap) => hs.idx (c := c) (k := k) (H1 := H1) hi
    have he : (encB (gt C (sc - 1).toNat))[0]? = some (.int .i8 (gt C (sc - 1).toNat)) := rfl
    have wv : IntKind.i64.wrap (gt C (sc - 1).toNat) = gt C (sc - 1).toNat := wrap_id (by omega) (by omega)
    simp only [n18, r18, w1, int_lt_cast, hi, hld, hidx, he, wv, SB, Nat.reduceLT, callee, aOp, ne_eq, Nat.reduceEqDiff, aBin, aUn, if_true, if_false, reduceCtorEq, frame0, place, notTuple, Nat.reduceAdd, Nat.reduceLeDiff, resVal, dite_true, dite_false, Int.reduceEq, Int.reduceLT, Int.reduceLE]
  · rw [if_neg hlt]
    have hi : ¬ (sc - 1).toNat < C.length := by omega
    simp only [n18, r18, w1, int_lt_cast, hi, SB, Nat.reduceLT, callee, aOp, ne_eq, Nat.reduceEqDiff, aBin, aUn, if_true, if_false, reduceCtorEq, frame0, place, notTuple, Nat.reduceAdd, Nat.reduceLeDiff, resVal, dite_true, dite_false, Int.reduceEq, Int.reduceLT, Int.reduceLE]
structure BSt (H : Heap) (S : List Ev) (T : List Int) (sp tp : Option Addr) (sc tc : Nat) (G : Heap) : Prop where
  so : Own H.length G encN 6 sp sc S
  to : Own H.length G encI 1 tp tc T
  ne : ∀ a b, sp = some a → tp = some b → a.block ≠ b.block
  old : ∀ j, j < H.length → hget G j = hget H j
  len : H.length ≤ G.length
theorem BSt.step {H : Heap} {S : List Ev} {T : List Int} {sp tp : Option Addr} {sc tc lim : Nat} {G : Heap} (h : BSt H S T sp tp sc tc G) (hl : lim ≤ H.length) (hS : S.length < 1000) (hT : T.length < 1000) (s : Ev) (t : Int) (x y : Blk) :
    ∃ G2, aAppend lim none 6 48 false (.slice sp S.length sc) (.slice (some ⟨G.length + 2, 0, none⟩) 1 1) (G ++ [x, y, .cells false (encN s)]) = some (.slice (some ⟨G.length + 3, 0, none⟩) (S.length + 1) (loose 6), G2 ++ []) ∧
      ∃ G3, aAppend lim none 1 8 false (.slice tp T.length tc) (.slice (some ⟨G2.length, 0, none⟩) 1 1) (G2 ++ [.cells false [.int .i64 t]]) = some (.slice (some ⟨G2.length + 1, 0, none⟩) (T.length + 1) (loose 1), G3 ++ []) ∧
      BSt H (S ++ [s]) (T ++ [t]) (some ⟨G.length + 3, 0, none⟩) (some ⟨G2.length + 1, 0, none⟩) (loose 6) (loose 1) (G3 ++ []) := by
  have len := h.len
  obtain ⟨G2, e2, own2, _, hold2, len2, _⟩ := h.so.step (lim' := lim) (bytes := 48) hl encN_len (by decide) s (by unfold maxBytes; omega) (by omega) len [x, y, .cells false (encN s)] (G.length + 2) 1 (by rw [hget_new]; rfl)
  simp only [List.length_cons, List.length_nil, Nat.zero_add, Nat.reduceAdd] at e2 own2 len2
  have hc2 : Chg (opB sp) G (G2 ++ []) := ⟨by simp; omega, fun j hj hA => hold2 j hj (opB_not hA)⟩
  have to2 : Own H.length (G2 ++ []) encI 1 tp tc T := h.to.chg hc2 fun a ha hh => by
    obtain ⟨b, hb, e⟩ := opB_mem hh
    exact h.ne b a hb ha e.symm
  rw [List.append_nil] at own2 to2
  obtain ⟨G3, e3, own3, _, hold3, len3, _⟩ := to2.step (lim' := lim) (bytes := 8) hl encI_len (by decide) t (by unfold maxBytes; omega) (by omega) (by omega) [.cells false (encI t)] G2.length 1 (by rw [hget_new0]; rfl)
  simp only [List.length_cons, List.length_nil, Nat.zero_add, Nat.reduceAdd] at e3 own3 len3
  have hc3 : Chg (opB tp) G2 (G3 ++ []) := ⟨by simp; omega, fun j hj hA => hold3 j hj (opB_not hA)⟩
  have np : ∀ j, j < H.length → (∀ a, sp = some a → j ≠ a.block) ∧ (∀ a, tp = some a → j ≠ a.block) := fun j hj => ⟨fun a ha => by have := (h.so.block ha).1; omega, fun a ha => by have := (h.to.block ha).1; omega⟩
  refine ⟨G2, e2, G3, e3, own2.chg hc3 fun a ha hh => ?_, own3, fun a b ha hb => ?_, fun j hj => ?_, by simp; omega⟩
  · cases ha
    obtain ⟨b, hb, e⟩ := opB_mem hh
    have := (h.to.block hb).2
    have e' : G.length + 3 = b.block := e
    omega
  · cases ha; cases hb
    show G.length + 3 ≠ G2.length + 1
    omega
  · rw [hold3 j (by omega) (np j hj).2]
    have := hold2 j (by omega) (np j hj).1
    rw [List.append_nil] at this
    rw [this]; exact h.old j hj
theorem Built_ok [OB] {lim c cc : Nat} {p q : Option Addr} {F : List Fo} {C : List Int} {H : Heap} {Q : Value → Heap → Prop} (hf : Sl H encF 6 p F) (hcF : CapOk 6 c F.length) (hs : Sl H encB 1 q C) (hF : ∀ f ∈ F, FoOk f) (hC : ClOk C) (hnF : F.length < 2 ^ 63) (hnC : C.length < 2 ^ 63) (hl : lim ≤ H.length)
    (hQ : ∀ G sp sc tp tc, BSt H (builtS C F) (builtT F) sp tp sc tc G → Q (.tuple #[.slice sp (builtS C F).length sc, .slice tp (builtT F).length tc]) (G ++ [])) :
    CallR E false lim 17 [.slice p F.length c, .slice q C.length cc] H Q := by
  refine runs' (by decide) e17 rfl ?_
  rw [b17, c17]
  have mn : aMinMaxAll false (.int .i64 (F.length : Int)) [.int .i64 24] = some (.int .i64 ((min F.length 24 : Nat) : Int)) := by
    simp only [aMinMaxAll, aMinMax]
    grind
  obtain ⟨p', c', e1, s1, _, m1, _⟩ := slice_cut (vlo := none) (vhi := some (.int .i64 ((min F.length 24 : Nat) : Int))) (lo := 0) (hi := min F.length 24) hf hcF encF_len (fun cap hcap => by rw [bv_010 (by omega) (by omega), Int.toNat_natCast]) (Nat.zero_le _) (Nat.min_le_left _ _) (by omega)
  rw [Nat.sub_zero] at e1
  rw [List.drop_zero] at s1
  obtain ⟨n, hn⟩ : ∃ n, n = min F.length 24 := ⟨_, rfl⟩
  obtain ⟨F', hF'⟩ : ∃ F', F' = F.take n := ⟨_, rfl⟩
  rw [← hn] at mn e1 s1
  rw [← hF'] at s1
  have hlF : F'.length = n := by rw [hF', List.length_take]; omega
  have hbS : builtS C F = F'.map (madeS C) := by
    unfold builtS; rw [hF', hn]
    congr 1
    rcases Nat.le_total F.length 24 with h | h
    · rw [Nat.min_eq_left h, List.take_length, List.take_of_length_le h]
    · rw [Nat.min_eq_right h]
  have hbT : builtT F = F'.map madeAt := by
    unfold builtT; rw [hF', hn]
    congr 1
    rcases Nat.le_total F.length 24 with h | h
    · rw [Nat.min_eq_left h, List.take_length, List.take_of_length_le h]
    · rw [Nat.min_eq_right h]
  have hFF : ∀ f ∈ F', FoOk f := fun f h => hF f (by rw [hF'] at h; exact List.mem_of_mem_take h)
  simp only [n17, r17, mn, e1, SB, Nat.reduceLT, callee, aOp, ne_eq, Nat.reduceEqDiff, aBin, aUn, if_true, if_false, reduceCtorEq, frame0, place, notTuple, Nat.reduceAdd, Nat.reduceLeDiff, resVal, dite_true, dite_false, Int.reduceEq, Int.reduceLT, Int.reduceLE]
  refine Ret_rounds (S := Nat × Option Addr × Option Addr × Nat × Nat) (fun s => n - s.1) (fun s fr G => s.1 ≤ n ∧ fr 1 = .slice q C.length cc ∧ fr 6 = .slice s.2.1 s.1 s.2.2.2.1 ∧ fr 7 = .slice s.2.2.1 s.1 s.2.2.2.2 ∧ fr 16 = .slice p' n c' ∧ fr 17 = .int .i64 (n : Int) ∧ fr 18 = .int .i64 (s.1 : Int) ∧
    BSt H ((F'.map (madeS C)).take s.1) ((F'.map madeAt).take s.1) s.2.1 s.2.2.1 s.2.2.2.1 s.2.2.2.2 G) (0, none, none, 0, 0)
    ⟨Nat.zero_le _, (by simp only [FB, Nat.reduceEqDiff]), (by simp only [FB, Nat.reduceEqDiff]), (by simp only [FB, Nat.reduceEqDiff]), (by simp only [FB, Nat.reduceEqDiff]), (by simp only [FB, Nat.reduceEqDiff]), by rfl, .inl ⟨rfl, rfl, rfl⟩, .inl ⟨rfl, rfl, rfl⟩, fun a b h => (by cases h), fun j hj => hget_old hj, by simp⟩ ?_
  rintro ⟨i, sp, tp, sc, tc⟩ fr G ⟨hi, g1, g6, g7, g16, g17, g18, st⟩ hN
  simp only at hi g6 g7 g18 st
  rw [Ret_code l17_1.eq_1]
  refine Ret_pad ?_
  have len := st.len
  have lS : ((F'.map (madeS C)).take i).length = i := by rw [List.length_take, List.length_map]; omega
  have lT : ((F'.map madeAt).take i).length = i := by rw [List.length_take, List.length_map]; omega
  by_cases hlt : i < n
  · have hiF : i < F'.length := by omega
    have sF : Sl G encF 6 p' F' := Sl.same s1 fun a ha hne => by subst ha; exact st.old _ (s1.lt hne)
    have sC : ∀ X, Sl (G ++ X) encB 1 q C := fun X => (Sl.same hs fun a ha hne => by subst ha; exact st.old _ (hs.lt hne)).app X
    have hld := fun X => (sF.app X).loadCells encF_len hiF
    have hidx : ∀ (c : Nat) (k : IntKind) (H1 : Heap), idxK 6 (.slice p' n c) (.int k (i : Int)) H1 = some (.pointer (some (elt p' 6 i)), H1) := fun c k H1 => by
      rw [← hlF]; exact sF.idx hiF
    have hw1 : IntKind.i64.wrap ((i : Int) + 1) = ((i + 1 : Nat) : Int) := wrap_nat (by omega)
    have hfo := hFF _ (gt_mem hiF)
    have hSi : (F'.map (madeS C)).take (i + 1) = (F'.map (madeS C)).take i ++ [madeS C (gt F' i)] := by
      rw [List.take_succ_eq_append_getElem (by rw [List.length_map]; exact hiF), List.getElem_map, gt_lt hiF]
    have hTi : (F'.map madeAt).take (i + 1) = (F'.map madeAt).take i ++ [madeAt (gt F' i)] := by
      rw [List.take_succ_eq_append_getElem (by rw [List.length_map]; exact hiF), List.getElem_map, gt_lt hiF]
    generalize gt F' i = f at *
    have hfo' := hfo
    unfold FoOk at hfo'
    obtain ⟨⟨a1, a2⟩, ⟨b1, b2⟩, ⟨c1, c2⟩, ⟨d1, d2⟩, ⟨e1', e2'⟩, ⟨f1, f2⟩⟩ := hfo'
    have hbin := behN_in hC (sc := 1 + f.scanner % 4) (by omega)
    have hbe := fun X (mp : Bool) (lim : Nat) (Q : Value → Heap → Prop) => behind_ok (mp := mp) (lim := lim) (Q := Q) (cc := cc) (sC X) hC hnC (sc := 1 + f.scanner % 4) (by omega) (by omega)
    have hms : madeS C f = ⟨1 + f.item % 4, 1 + f.place % 4, 1 + f.scanner % 4, 1 + f.kind % 4, madeAt f - behN C (1 + f.scanner % 4), madeAt f + f.late, 0⟩ := rfl
    have hma : madeAt f = 14400 + f.at' % 5760 := rfl
    have x1 : IntKind.i64.wrap f.at' = f.at' := wrap_id (by omega) (by omega)
    have x2 : Int.tmod f.at' 5760 = f.at' % 5760 := Int.tmod_eq_emod_of_nonneg e1'
    have x3 : IntKind.i64.wrap (14400 + f.at' % 5760) = madeAt f := (wrap_id (by omega) (by omega)).trans hma.symm
    have x4 : IntKind.i64.wrap f.item = f.item := wrap_id (by omega) (by omega)
    have x5 : Int.tmod f.item 4 = f.item % 4 := Int.tmod_eq_emod_of_nonneg a1
    have x6 : IntKind.i64.wrap (1 + f.item % 4) = 1 + f.item % 4 := wrap_id (by omega) (by omega)
    have x7 : IntKind.i64.wrap f.place = f.place := wrap_id (by omega) (by omega)
    have x8 : Int.tmod f.place 4 = f.place % 4 := Int.tmod_eq_emod_of_nonneg b1
    have x9 : IntKind.i64.wrap (1 + f.place % 4) = 1 + f.place % 4 := wrap_id (by omega) (by omega)
    have y1 : IntKind.i64.wrap f.scanner = f.scanner := wrap_id (by omega) (by omega)
    have y2 : Int.tmod f.scanner 4 = f.scanner % 4 := Int.tmod_eq_emod_of_nonneg c1
    have y3 : IntKind.i64.wrap (1 + f.scanner % 4) = 1 + f.scanner % 4 := wrap_id (by omega) (by omega)
    have y4 : Int.tmod f.kind 4 = f.kind % 4 := Int.tmod_eq_emod_of_nonneg d1
    have y5 : IntKind.u8.wrap (1 + f.kind % 4) = 1 + f.kind % 4 := by simp only [IntKind.wrap, IntKind.bits, IntKind.signed]; simp; omega
    have y6 : IntKind.i64.wrap f.late = f.late := wrap_id (by omega) (by omega)
    have y7 : IntKind.i64.wrap (madeAt f + f.late) = madeAt f + f.late := wrap_id (by omega) (by omega)
    have y8 : IntKind.i64.wrap (madeAt f - behN C (1 + f.scanner % 4)) = madeAt f - behN C (1 + f.scanner % 4) := wrap_id (by omega) (by omega)
    obtain ⟨G2, q1, G3, q2, st'⟩ := st.step hl (by omega) (by omega) (madeS C f) (madeAt f) (.cells false (encF f)) (.cells false (encN (madeS C f)))
    rw [lS] at q1
    rw [lT] at q2
    have hrow : [Value.int .i64 (1 + f.item % 4), .int .i64 (1 + f.place % 4), .int .i64 (1 + f.scanner % 4), .int .u8 (1 + f.kind % 4), .int .i64 (madeAt f - behN C (1 + f.scanner % 4)), .int .i64 (madeAt f + f.late)] = encN (madeS C f) := rfl
    have hlG : lim ≤ G.length := by omega
    generalize madeAt f = mt at *
    generalize behN C (1 + f.scanner % 4) = bn at *
    simp only [n17, r17, g1, g6, g7, g16, g17, g18, int_lt_cast, hlt, hidx, hld, hlG, encF_len, encF_0, encF_1, encF_2, encF_3, encF_4, encF_5, encN_len, encN_0, encN_1, encN_2, encN_3, encN_4, encN_5, take_all, setAll_full, hw1, x1, x2, x3, x4, x5, x6, x7, x8, x9, y1, y2, y3, y4, y5, y6, y7, y8, hbe, hrow, q1, q2, SB, Nat.reduceLT, callee, aOp, ne_eq, Nat.reduceEqDiff, aBin, aUn, if_true, if_false, reduceCtorEq, frame0, place, notTuple, Nat.reduceAdd, Nat.reduceLeDiff, resVal, dite_true, dite_false, Int.reduceEq, Int.reduceLT, Int.reduceLE]
    exact hN (i + 1, some ⟨G.length + 3, 0, none⟩, some ⟨G2.length + 1, 0, none⟩, loose 6, loose 1) _ _ ⟨by simp only; omega, (by simp only [g1, FB, Nat.reduceEqDiff]), (by simp only [FB, Nat.reduceEqDiff]), (by simp only [FB, Nat.reduceEqDiff]), (by simp only [g16, FB, Nat.reduceEqDiff]), (by simp only [g17, FB, Nat.reduceEqDiff]), (by simp only [FB, Nat.reduceEqDiff]), by simp only; rw [hSi, hTi]; exact st'⟩ (by simp only; omega)
  · obtain rfl : i = n := by omega
    rw [List.take_of_length_le (by rw [List.length_map]; omega), List.take_of_length_le (by rw [List.length_map]; omega), ← hbS, ← hbT] at st
    have l1 : (builtS C F).length = i := by rw [hbS, List.length_map, hlF]
    have l2 : (builtT F).length = i := by rw [hbT, List.length_map, hlF]
    have := hQ G sp sc tp tc st
    rw [l1, l2] at this
    simp only [n17, r17, g1, g6, g7, g16, g17, g18, int_lt_cast, hlt, SB, Nat.reduceLT, callee, aOp, ne_eq, Nat.reduceEqDiff, aBin, aUn, if_true, if_false, reduceCtorEq, frame0, place, notTuple, Nat.reduceAdd, Nat.reduceLeDiff, resVal, dite_true, dite_false, Int.reduceEq, Int.reduceLT, Int.reduceLE]
    exact this
theorem awake_onF [OB] (h : OB.on 11 = true) {mp : Bool} {lim : Nat} {H : Heap} {Q : Value → Heap → Prop} : CallR Ef mp lim 11 [] H Q = Q (.bool true) H :=
  CallR_orc (E := Ef) (by simp [Ef, orc, h]) rfl rfl
theorem pcF [OB] {mp : Bool} {lim : Nat} {g : FuncId} {as : List Value} {v : Value} {af : AFunc} {H : Heap} {Q : Value → Heap → Prop} (h : g≠11) (ht : tr g = some af) (hp : pf g = true) (hf : flat 4 v = true) (hr : Ret Ef af H.length [.code af.body] (frame0 as) (H ++ []) fun v' _ => v' = v) : CallR Ef mp lim g as H Q = Q v H :=
  CallR_pure (E := Ef) (by simp [Ef, orc, h]) ht hp hf (Ret_pad hr)
def Met {α : Type} (P : α → Prop) [DecidablePred P] (l : List α) (j : Nat) : Bool := (l.take j).any fun x => decide (P x)
theorem Met_zero {α : Type} {P : α → Prop} [DecidablePred P] {l : List α} : Met P l 0 = false := by unfold Met; rw [List.take_zero]; rfl
theorem Met_succ {α : Type} [Inhabited α] {P : α → Prop} [DecidablePred P] {l : List α} {j : Nat} (h : j < l.length) : Met P l (j + 1) = (Met P l j || decide (P (gt l j))) := by
  unfold Met
  rw [List.take_succ_eq_append_getElem h, List.any_append, gt_lt h]
  simp
theorem Met_all {α : Type} {P : α → Prop} [DecidablePred P] {l : List α} (h : ∃ x ∈ l, P x) : Met P l l.length = true := by
  unfold Met
  rw [List.take_length, List.any_eq_true]
  obtain ⟨x, h1, h2⟩ := h
  exact ⟨x, h1, decide_eq_true h2⟩
def isMk (m : Mk) (s : Ev) : Prop := s.scanner = m.scanner ∧ s.at' = m.at' ∧ s.seen - s.at' = m.off
instance (m : Mk) : DecidablePred (isMk m) := fun s => by unfold isMk; infer_instance
def lessMk (s : Ev) (m : Mk) : Prop := m.scanner = s.scanner ∧ m.off ≤ s.seen - s.at'
instance (s : Ev) : DecidablePred (lessMk s) := fun m => by unfold lessMk; infer_instance
theorem eqN_dec (x y : Ev) : aEq (.agg [.int .i64, .int .i64, .int .i64, .int .u8, .int .i64, .int .i64]) (.agg (encN x).toArray) (.agg (encN y).toArray) = some (decide (bare x = bare y)) := by
  simp only [aEq, encN, cellsEq, cellEq, and_self, if_true]
  rw [Option.some_inj, Bool.eq_iff_iff]
  obtain ⟨a, b, c, d, e, f, g⟩ := x
  obtain ⟨a', b', c', d', e', f', g'⟩ := y
  simp [bare]
theorem alike_ok [OB] {mp : Bool} {lim : Nat} {x y : Ev} {H : Heap} {Q : Value → Heap → Prop} : CallR E mp lim 24 [.agg (encN x).toArray, .agg (encN y).toArray] H Q = Q (.bool (decide (sight x = sight y))) H := by
  refine pc (by decide) e24 rfl rfl ?_
  rw [b24, c24]
  have hd : decide (sight x = sight y) = decide (x.item = y.item ∧ x.place = y.place ∧ x.kind = y.kind) := by unfold sight; simp
  rw [hd]
  by_cases h1 : x.item = y.item
  case neg => simp only [n24, r24, encN_len, encN_0, encN_1, encN_2, encN_3, encN_4, encN_5, take_all, eq_false h1, decide_eq_false (show ¬ (x.item = y.item ∧ x.place = y.place ∧ x.kind = y.kind) from fun h => h1 h.1), SB, Nat.reduceLT, callee, aOp, ne_eq, Nat.reduceEqDiff, aBin, aUn, if_true, if_false, reduceCtorEq, frame0, place, notTuple, Nat.reduceAdd, Nat.reduceLeDiff, resVal, dite_true, dite_false, Int.reduceEq, Int.reduceLT, Int.reduceLE]
  by_cases h2 : x.place = y.place
  case neg => simp only [n24, r24, encN_len, encN_0, encN_1, encN_2, encN_3, encN_4, encN_5, take_all, eq_true h1, eq_false h2, decide_eq_false (show ¬ (x.item = y.item ∧ x.place = y.place ∧ x.kind = y.kind) from fun h => h2 h.2.1), SB, Nat.reduceLT, callee, aOp, ne_eq, Nat.reduceEqDiff, aBin, aUn, if_true, if_false, reduceCtorEq, frame0, place, notTuple, Nat.reduceAdd, Nat.reduceLeDiff, resVal, dite_true, dite_false, Int.reduceEq, Int.reduceLT, Int.reduceLE]
  by_cases h3 : x.kind = y.kind
  case neg => simp only [n24, r24, encN_len, encN_0, encN_1, encN_2, encN_3, encN_4, encN_5, take_all, eq_true h1, eq_true h2, eq_false h3, decide_eq_false (show ¬ (x.item = y.item ∧ x.place = y.place ∧ x.kind = y.kind) from fun h => h3 h.2.2), SB, Nat.reduceLT, callee, aOp, ne_eq, Nat.reduceEqDiff, aBin, aUn, if_true, if_false, reduceCtorEq, frame0, place, notTuple, Nat.reduceAdd, Nat.reduceLeDiff, resVal, dite_true, dite_false, Int.reduceEq, Int.reduceLT, Int.reduceLE]
  simp only [n24, r24, encN_len, encN_0, encN_1, encN_2, encN_3, encN_4, encN_5, take_all, eq_true h1, eq_true h2, eq_true h3, SB, Nat.reduceLT, callee, aOp, ne_eq, Nat.reduceEqDiff, aBin, aUn, if_true, if_false, reduceCtorEq, frame0, place, notTuple, Nat.reduceAdd, Nat.reduceLeDiff, resVal, dite_true, dite_false, Int.reduceEq, Int.reduceLT, Int.reduceLE]
theorem alike_f [OB] {mp : Bool} {lim : Nat} {x y : Ev} {H : Heap} {Q : Value → Heap → Prop} : CallR Ef mp lim 24 [.agg (encN x).toArray, .agg (encN y).toArray] H Q = Q (.bool (decide (sight x = sight y))) H := CallR.eqF (by rw [alike_ok]; exact ⟨rfl, rfl⟩)
theorem append_full {α : Type} {lim d e bytes c : Nat} {H : Heap} {enc : α → List Value} {a : Addr} {p : Option Addr} {l m : List α} (hl : AM.loadCells H a (l.length * e) = some (l.flatMap enc)) (hs : Sl H enc e p m) (he0 : e ≠ 0) (hm : m ≠ []) (hb : (l.length + m.length) * bytes ≤ maxBytes) (hn : l.length + m.length < 2 ^ 61) :
    aAppend lim (some d) e bytes false (.slice (some a) l.length l.length) (.slice p m.length c) H = some (.slice (some ⟨d, 0, none⟩) (l.length + m.length) (loose e), H.set d (.cells false ((l ++ m).flatMap enc))) := by
  have hm0 : ¬ m.length = 0 := fun q => hm (List.length_eq_zero_iff.1 q)
  have h1 : firstCells H e false (.slice p m.length c) = some (m.flatMap enc) := first_slice hs
  simp only [aAppend, h1, hl, lenOf, hm0, if_false]
  rw [if_neg (by omega), if_neg (by unfold loose; omega), if_pos (by omega), if_neg (by omega)]
  simp [place]
theorem cut_full {e R n c k : Nat} (hc : CapOk e c n) (h : k ≤ n) (hn : n < 2 ^ 61) : sliceV e (.slice (some ⟨R, 0, none⟩) n c) none (some (.int .i64 (k : Int))) (some (.int .i64 (k : Int))) = some (.slice (some ⟨R, 0, none⟩) k k) := by
  have hb : ∀ cap, n ≤ cap → bounds unV n cap none (some (.const (.int .i64 (k : Int)))) (some (.const (.int .i64 (k : Int)))) = some (0, k, k) := fun cap hcap => by
    have := bv_011 (len := n) (cap := cap) (k1 := .i64) (k2 := .i64) (h := (k : Int)) (x := (k : Int)) (by omega) (by omega) (by omega)
    rw [Int.toNat_natCast] at this
    exact this
  unfold sliceV aSliceS
  simp only [Option.map_some, Option.map_none]
  rcases hc with rfl | ⟨h1, h2⟩
  · simp only [if_true, hb n (Nat.le_refl _)]
    rw [if_pos (by omega)]
    simp only [addr_add, Nat.zero_mul, Nat.add_zero, Nat.sub_zero, ite_self]
  · rw [if_neg (by unfold loose; omega), if_pos h2, hb c h1]
    simp only [addr_add, Nat.zero_mul, Nat.add_zero, Nat.sub_zero, Option.map_some, ite_self]
theorem take_out {lim d R c k : Nat} {L : List Ev} {G : Heap} (hL : Sl G encN 6 (some ⟨R, 0, none⟩) L) (hc : CapOk 6 c L.length) (hk : k < L.length) (hn : L.length < 2 ^ 30) :
    ∃ p2 n2 c2 R' c', sliceV 6 (.slice (some ⟨R, 0, none⟩) L.length c) none (some (.int .i64 (k : Int))) (some (.int .i64 (k : Int))) = some (.slice (some ⟨R, 0, none⟩) k k) ∧
      sliceV 6 (.slice (some ⟨R, 0, none⟩) L.length c) (some (.int .i64 ((k + 1 : Nat) : Int))) none none = some (.slice p2 n2 c2) ∧
      ((R' = R ∧ Sl G encN 6 (some ⟨R, 0, none⟩) (L.eraseIdx k) ∧ ∀ X, aAppend lim (some d) 6 48 false (.slice (some ⟨R, 0, none⟩) k k) (.slice p2 n2 c2) (G ++ X) = some (.slice (some ⟨R', 0, none⟩) (L.eraseIdx k).length c', G ++ X)) ∨
       (R' = d ∧ ∀ X, aAppend lim (some d) 6 48 false (.slice (some ⟨R, 0, none⟩) k k) (.slice p2 n2 c2) (G ++ X) = some (.slice (some ⟨R', 0, none⟩) (L.eraseIdx k).length c', (G ++ X).set d (.cells false ((L.eraseIdx k).flatMap encN))))) ∧ CapOk 6 c' (L.eraseIdx k).length := by
  have hln : (L.eraseIdx k).length = L.length - 1 := by rw [List.length_eraseIdx, if_pos hk]
  have hed : L.eraseIdx k = L.take k ++ L.drop (k + 1) := List.eraseIdx_eq_take_drop_succ ..
  obtain ⟨p2, c2, e2, t2, _, m2, z2⟩ := slice_cut (vlo := some (.int .i64 ((k + 1 : Nat) : Int))) (vhi := none) (lo := k + 1) (hi := L.length) hL hc encN_len (fun cap hcap => by rw [bv_100 (by omega) (by omega), Int.toNat_natCast]) (by omega) (Nat.le_refl _) (by omega)
  rw [List.take_length] at t2
  have hlt : (L.take k).length = k := by rw [List.length_take]; omega
  have hld : (L.drop (k + 1)).length = L.length - (k + 1) := List.length_drop
  have hne : L ≠ [] := by rintro rfl; simp at hk
  have htk : ∀ X, AM.loadCells (G ++ X) ⟨R, 0, none⟩ ((L.take k).length * 6) = some ((L.take k).flatMap encN) := fun X => by
    obtain ⟨ro, cs, q1, q2, q3⟩ := hL.2 hne
    simp only at q1 q2 q3
    rw [hlt, loadCells_lit, hget_old (hget_alive q1), q1]
    simp only
    rw [if_pos (by omega), flat_take encN_len, ← q3, List.take_take, Nat.min_eq_left (by omega)]
  by_cases hd0 : k + 1 = L.length
  · have h0 : L.length - (k + 1) = 0 := by omega
    rw [h0] at e2
    refine ⟨p2, 0, c2, R, k, cut_full hc (by omega) (by omega), e2, .inl ⟨rfl, ?_, fun X => ?_⟩, .inr ⟨by omega, by omega⟩⟩
    · rw [hed]
      have : L.drop (k + 1) = [] := List.eq_nil_of_length_eq_zero (by omega)
      rw [this, List.append_nil]
      have h2 := hL
      rw [← List.take_append_drop k L] at h2
      exact h2.pre encN_len
    · rw [hln, show L.length - 1 = k by omega]
      exact append_none (by decide) (.inr ⟨_, rfl⟩) (by unfold maxBytes; omega) (by omega) (Nat.le_refl _) (by cases p2 with | none => exact .inl rfl | some a => exact .inr ⟨a, rfl⟩)
  · refine ⟨p2, _, c2, d, loose 6, cut_full hc (by omega) (by omega), e2, .inr ⟨rfl, fun X => ?_⟩, .inl rfl⟩
    have hd1 : L.drop (k + 1) ≠ [] := fun h => by rw [h] at hld; simp at hld; omega
    have := append_full (lim := lim) (d := d) (bytes := 48) (c := c2) (l := L.take k) (m := L.drop (k + 1)) (htk X) (t2.app X) (by decide) hd1 (by rw [hlt, hld]; unfold maxBytes; omega) (by rw [hlt, hld]; omega)
    rw [hlt, hld] at this
    rw [hed, List.length_append, hlt, hld]
    exact this
theorem find_loop [OB] {lim B16 R c1 : Nat} {L : List Ev} {x : Ev} {G : Heap} {fr : Nat → Value} {K8 : List AItem} {Z : Value → Heap → Prop} (hs : Sl G encN 6 (some ⟨R, 0, none⟩) L) (hn : L.length < 2 ^ 30) (hB : hget G B16 = .cells false (encE x)) (hx : bare x ∈ L) (hb : ∀ y ∈ L, bare y = y)
    (f12 : fr 12 = .slice (some ⟨R, 0, none⟩) L.length c1) (f16 : fr 16 = .pointer (some ⟨B16, 0, none⟩)) (f17 : fr 17 = .int .i64 0)
    (hR : ∀ fr' k, k < L.length → gt L k = bare x → fr' 17 = .int .i64 (k : Int) → (∀ j, j ≤ 16 → fr' j = fr j) → (∀ j, 60 ≤ j → j ≤ 102 → fr' j = fr j) → Ret Ef a8 lim K8 fr' (G ++ []) Z) :
    Ret Ef a8 lim (.code (.loop l8_5) :: .inBlock 4 :: K8) fr G Z := by
  refine Ret_rounds (fun i : Nat => L.length - i) (fun i fr' G' => i ≤ L.length ∧ fr' 17 = .int .i64 (i : Int) ∧ (∀ j, j < i → bare (gt L j) ≠ bare x) ∧ (∀ j, j ≤ 16 → fr' j = fr j) ∧ (∀ j, 60 ≤ j → j ≤ 102 → fr' j = fr j) ∧ G' = G) 0
    ⟨Nat.zero_le _, f17, fun j h => absurd h (Nat.not_lt_zero _), fun _ _ => rfl, fun _ _ _ => rfl, rfl⟩ ?_
  rintro i fr' G' ⟨hi, g17, hno, hfr, hfr2, rfl⟩ hN
  rw [Ret_code l8_5.eq_1]
  refine Ret_pad ?_
  have g12 := (hfr 12 (by decide)).trans f12
  have g16 := (hfr 16 (by decide)).trans f16
  have hBX := fun X => (Ext.refl.app (X := X)).cells hB
  have hlt : i < L.length := by
    rcases Nat.lt_or_ge i L.length with q | q
    · exact q
    · obtain ⟨j, hj, e⟩ := List.mem_iff_getElem.mp hx
      refine absurd ?_ (hno j (by omega))
      rw [gt_lt hj, e]
      rfl
  have hld := fun X => (hs.app X).loadCells encN_len hlt
  have hidx := fun c (k : IntKind) (H1 : Heap) => hs.idx (c := c) (k := k) (H1 := H1) hlt
  have hby := hb _ (gt_mem hlt)
  have hw1 : IntKind.i64.wrap ((i : Int) + 1) = ((i + 1 : Nat) : Int) := wrap_nat (by omega)
  by_cases he : bare (gt L i) = bare x
  · simp only [n8, r8, g12, g16, g17, int_lt_cast, hlt, hidx, hld, hBX, encE_len, encE_0, encE_1, encE_2, encE_3, encE_4, encE_5, encE_6, encE_scan, encN_len, take_all, eqN_dec, decide_eq_true he, SB, Nat.reduceLT, callee, aOp, ne_eq, Nat.reduceEqDiff, aBin, aUn, if_true, if_false, reduceCtorEq, frame0, place, notTuple, Nat.reduceAdd, Nat.reduceLeDiff, resVal, dite_true, dite_false, Int.reduceEq, Int.reduceLT, Int.reduceLE]
    exact hR _ i hlt (hby.symm.trans he) (by simp only [g17, FB, Nat.reduceEqDiff]) (fun j hj => by rw [← hfr j hj]; simp only [upd]; repeat rw [if_neg (by omega)]) (fun j hj hj2 => by rw [← hfr2 j hj hj2]; simp only [upd]; repeat rw [if_neg (by omega)])
  · simp only [n8, r8, g12, g16, g17, int_lt_cast, hlt, hidx, hld, hBX, encE_len, encE_0, encE_1, encE_2, encE_3, encE_4, encE_5, encE_6, encE_scan, encN_len, take_all, eqN_dec, decide_eq_false he, hw1, SB, Nat.reduceLT, callee, aOp, ne_eq, Nat.reduceEqDiff, aBin, aUn, if_true, if_false, reduceCtorEq, frame0, place, notTuple, Nat.reduceAdd, Nat.reduceLeDiff, resVal, dite_true, dite_false, Int.reduceEq, Int.reduceLT, Int.reduceLE]
    exact hN (i + 1) _ _ ⟨by omega, (by simp only [FB, Nat.reduceEqDiff]), fun j hj => by
      rcases Nat.lt_succ_iff_lt_or_eq.mp hj with q | rfl
      · exact hno j q
      · exact he, (fun j hj => by rw [← hfr j hj]; simp only [upd]; repeat rw [if_neg (by omega)]), (fun j hj hj2 => by rw [← hfr2 j hj hj2]; simp only [upd]; repeat rw [if_neg (by omega)]), by rw [List.append_nil]⟩ (by omega)
def todo (K T : List Ev) (i : Nat) : List Ev := if i = 0 then K ++ T else if i = 1 then T else []
def eith {α : Type} (a b : α) (i : Nat) : α := if i = 0 then a else b
def lst (K T : List Ev) (i : Nat) : List Ev := if i = 0 then K else T
theorem todo_lst {K T : List Ev} {i : Nat} (h : i < 2) : todo K T i = lst K T i ++ todo K T (i + 1) := by
  unfold todo lst
  rcases (show i = 0 ∨ i = 1 by omega) with rfl | rfl
  · rfl
  · simp
theorem erase_perm {α : Type} [Inhabited α] {L : List α} {k : Nat} (hk : k < L.length) : (gt L k :: L.eraseIdx k).Perm L := by
  have e0 : L.take k ++ gt L k :: L.drop (k + 1) = L := by rw [gt_lt hk, ← List.drop_eq_getElem_cons hk, List.take_append_drop]
  rw [List.eraseIdx_eq_take_drop_succ]
  have := (List.perm_middle (a := gt L k) (l₁ := L.take k) (l₂ := L.drop (k + 1))).symm
  rw [e0] at this
  exact this
def nearK (x y : Ev) : Prop := sight x = sight y ∧ y.time ≤ x.time ∧ x.time - y.time ≤ 10
instance (x : Ev) : DecidablePred (nearK x) := fun y => by unfold nearK; infer_instance
theorem left_new {lim : Nat} {G : Heap} {S : List Ev} {sp : Option Addr} {sc : Nat} (h : Sl G encN 6 sp S) (hn : S.length < 2 ^ 20) :
    ∃ G3 R cL, aAppend lim none 6 48 false (.slice (some ⟨G.length, 0, none⟩) 0 0) (.slice sp S.length sc) (G ++ [.cells false []]) = some (.slice (some ⟨R, 0, none⟩) S.length cL, G3 ++ []) ∧ Sl G3 encN 6 (some ⟨R, 0, none⟩) S ∧ CapOk 6 cL S.length ∧ Ext G G3 := by
  by_cases hS : S = []
  · subst hS
    refine ⟨G ++ [.cells false []], G.length, 0, ?_, ⟨rfl, fun h => absurd rfl h⟩, .inr ⟨Nat.le_refl _, by decide⟩, ⟨_, rfl⟩⟩
    have := append_new0 (lim := lim) (b := G.length) (c := sc) (e := 6) (bytes := 48) (dest := none) (H := G ++ [.cells false []]) (p := sp) (by decide)
    rw [List.append_nil]
    exact this
  · have := append_newN (lim := lim) (b := G.length) (bytes := 48) (c := sc) (by rw [hget_new0]; rfl) (h.app [.cells false []]) (by decide) (by unfold maxBytes; omega) (by omega) hS
    refine ⟨_, _, _, by rw [List.append_nil]; exact this, Sl.row encN_len (ro := false) ?_, .inl rfl, ⟨[.cells false [], .cells false (S.flatMap encN)], by simp⟩⟩
    rw [hget_new0]; rfl
theorem ScanKeeps_ok [OB] (hA : OB.on 11 = true) {mp : Bool} {lim c cc : Nat} {p q : Option Addr} {F : List Fo} {C : List Int} {H : Heap} {Q : Value → Heap → Prop} (hf : Sl H encF 6 p F) (hcF : CapOk 6 c F.length) (hs : Sl H encB 1 q C) (hF : ∀ f ∈ F, FoOk f) (hC : ClOk C) (hnF : F.length < 2 ^ 63) (hnC : C.length < 2 ^ 63) :
    CallR Ef mp lim 8 [.slice p F.length c, .slice q C.length cc] H Q = Q (.bool true) H := by
  refine pcF (by decide) e8 rfl rfl ?_
  rw [b8, c8]
  simp only [n8, r8, SB, Nat.reduceLT, callee, aOp, ne_eq, Nat.reduceEqDiff, aBin, aUn, if_true, if_false, reduceCtorEq, frame0, place, notTuple, Nat.reduceAdd, Nat.reduceLeDiff, resVal, dite_true, dite_false, Int.reduceEq, Int.reduceLT, Int.reduceLE]
  rw [List.append_nil]
  refine CallR.weak (E' := E) (Built_ok hf hcF hs hF hC hnF hnC (Nat.le_refl _) fun G sp sc tp tc bst => ?_)
  have hSr := builtS_right hC hF
  have hS24 : (builtS C F).length ≤ 24 := by unfold builtS; rw [List.length_map, List.length_take]; omega
  have hSb : ∀ s ∈ builtS C F, bare s = s := fun s h => by
    unfold builtS at h
    obtain ⟨f, _, rfl⟩ := List.mem_map.mp h
    rfl
  have sS := bst.so.sl encN_len
  have cS := bst.so.capOk
  have lenG := bst.len
  generalize builtS C F = S at *
  simp only [n8, r8, SB, Nat.reduceLT, callee, aOp, ne_eq, Nat.reduceEqDiff, aBin, aUn, if_true, if_false, reduceCtorEq, frame0, place, notTuple, Nat.reduceAdd, Nat.reduceLeDiff, resVal, dite_true, dite_false, Int.reduceEq, Int.reduceLT, Int.reduceLE]
  rw [List.append_nil]
  refine Order_ok sS hSr (by omega) fun G1 kp kc O1 C1 => ?_
  have l1 := C1.len
  simp only [n8, r8, SB, Nat.reduceLT, callee, aOp, ne_eq, Nat.reduceEqDiff, aBin, aUn, if_true, if_false, reduceCtorEq, frame0, place, notTuple, Nat.reduceAdd, Nat.reduceLeDiff, resVal, dite_true, dite_false, Int.reduceEq, Int.reduceLT, Int.reduceLE]
  rw [List.append_nil]
  refine Doubled_ok (C1.sl sS fun a _ _ h => (by cases h)) hSr (by omega) fun G2 dp dc O2 C2 => ?_
  have l2 := C2.len
  have sS2 := (C1.trans C2).sl sS fun a _ _ h => (by cases h)
  have sK := C2.sl (O1.sl encE_len) fun a _ _ h => (by cases h)
  have sT := O2.sl encE_len
  have cK := O1.capOk
  have hlen := sift_len S
  have hperm := sift_perm S
  have hrise := sift_rising S
  have htime := fun x (h : x ∈ (siftN S).1 ∨ x ∈ (siftN S).2) => sift_time hSr.2 h
  have hap1 := (sift_apart S).1
  have hap2 := (sift_apart S).2
  have hfine : ∀ x, (x ∈ (siftN S).1 ∨ x ∈ (siftN S).2) → x.seen ≤ maxT := fun x h => by
    obtain ⟨s, hs, rfl⟩ := sift_mem h
    have := hSr.2 s hs
    unfold FineE at this
    exact this.2.2.2.2.2.2
  clear O1 O2 C1 C2 bst hs hcF hf
  generalize (siftN S).1 = K at *
  generalize (siftN S).2 = T at *
  have wkt : IntKind.i64.wrap ((K.length : Int) + (T.length : Int)) = (S.length : Int) := by rw [wrap_id (by omega) (by omega)]; omega
  have hmap : S.map bare = S := by
    conv => rhs; rw [← List.map_id S]
    exact List.map_congr_left fun s hs => hSb s hs
  rw [hmap] at hperm
  obtain ⟨G3, R0, cL0, eL, sL0, cL, hE3⟩ := left_new (lim := H.length) (sc := sc) sS2 (by omega)
  have l3 := hE3.len
  have sK3 := hE3.sl sK
  have sT3 := hE3.sl sT
  clear sK sT sS2 sS hE3
  simp only [n8, r8, wkt, eL, SB, Nat.reduceLT, callee, aOp, ne_eq, Nat.reduceEqDiff, aBin, aUn, if_true, if_false, reduceCtorEq, frame0, place, notTuple, Nat.reduceAdd, Nat.reduceLeDiff, resVal, dite_true, dite_false, Int.reduceEq, Int.reduceLT, Int.reduceLE]
  have ltl : ∀ i, i < 2 → (lst K T i).length ≤ S.length := fun i hi => by unfold lst; split <;> omega
  have lmem : ∀ {i x}, x ∈ lst K T i → x ∈ K ∨ x ∈ T := fun {i x} h => by
    unfold lst at h; split at h
    · exact .inl h
    · exact .inr h
  have lris : ∀ i, Rising (lst K T i) := fun i => by unfold lst; split <;> first | exact hrise.1 | exact hrise.2
  obtain ⟨B, hB⟩ : ∃ B, B = G3.length := ⟨_, rfl⟩
  refine Ret_rounds (S := Nat × List Ev × Nat × Nat) (fun s => 2 - s.1) (fun s fr G => s.1 ≤ 2 ∧ s.2.1.length ≤ 24 ∧ ((todo K T s.1).map bare).Perm s.2.1 ∧ (∀ y ∈ s.2.1, bare y = y) ∧ fr 7 = .slice kp K.length kc ∧ fr 9 = .slice dp T.length dc ∧ fr 11 = .func (.func 24) #[] #[] ∧ fr 12 = .slice (some ⟨s.2.2.1, 0, none⟩) s.2.1.length s.2.2.2 ∧ fr 64 = .slice (some ⟨B, 0, none⟩) 2 2 ∧ fr 65 = .int .i64 2 ∧ fr 66 = .int .i64 (s.1 : Int) ∧
      Sl G encN 6 (some ⟨s.2.2.1, 0, none⟩) s.2.1 ∧ CapOk 6 s.2.2.2 s.2.1.length ∧ hget G B = .cells false [.slice kp K.length kc, .slice dp T.length dc] ∧ Ext G3 G) (0, S, R0, cL0)
    ⟨Nat.zero_le _, hS24, hperm, hSb, (by simp only [FB, Nat.reduceEqDiff]), (by simp only [FB, Nat.reduceEqDiff]), (by simp only [FB, Nat.reduceEqDiff]), (by simp only [FB, Nat.reduceEqDiff]), (by simp only [hB, FB, Nat.reduceEqDiff]), (by simp only [FB, Nat.reduceEqDiff]), by rfl, sL0.app _, cL, by rw [hB, hget_new0]; rfl, Ext.refl.app⟩ ?_
  rintro ⟨i, L, R, c1⟩ fr G4 ⟨hi, hL, hP, hLb, f7, f9, f11, f12, f64, f65, f66, sL, cL1, gB, hE⟩ hN
  simp only at hi hL hP hLb f12 f66 sL cL1
  rw [Ret_code l8_7.eq_1]
  refine Ret_pad ?_
  have hEl := hE.len
  by_cases hlt : i < 2
  · have hB2 : ∀ X, AM.loadCell (G4 ++ X) ⟨B, i, none⟩ = some (.slice (eith kp dp i) (lst K T i).length (eith kc dc i)) := fun X => by
      rw [loadCell_lit, hget_old (hget_alive gB), gB]
      rcases (show i = 0 ∨ i = 1 by omega) with rfl | rfl <;> rfl
    have hidx : ∀ (c : Nat) (k : IntKind) (H1 : Heap), idxK 1 (.slice (some ⟨B, 0, none⟩) 2 c) (.int k (i : Int)) H1 = some (.pointer (some ⟨B, i, none⟩), H1) := fun c k H1 => by
      rw [idxK_nat hlt, addr_add, Nat.zero_add, Nat.mul_one]
    have hc2 : (i : Int) < 2 := by omega
    have hw1 : IntKind.i64.wrap ((i : Int) + 1) = ((i + 1 : Nat) : Int) := wrap_nat (by omega)
    simp only [n8, r8, f7, f9, f11, f12, f64, f65, f66, eq_true hc2, hidx, hB2, SB, Nat.reduceLT, callee, aOp, ne_eq, Nat.reduceEqDiff, aBin, aUn, if_true, if_false, reduceCtorEq, frame0, place, notTuple, Nat.reduceAdd, Nat.reduceLeDiff, resVal, dite_true, dite_false, Int.reduceEq, Int.reduceLT, Int.reduceLE]
    have sX : ∀ G, Ext G3 G → Sl G encE 7 (eith kp dp i) (lst K T i) := fun G h => by
      rcases (show i = 0 ∨ i = 1 by omega) with rfl | rfl
      · exact h.sl sK3
      · exact h.sl sT3
    have hXl := ltl i hlt
    have hXm := fun x (h : x ∈ lst K T i) => lmem h
    have hXr := lris i
    have htd := todo_lst (K := K) (T := T) hlt
    rw [htd] at hP
    generalize lst K T i = X at *
    obtain ⟨Y, hY⟩ : ∃ Y, Y = todo K T (i + 1) := ⟨_, rfl⟩
    rw [← hY] at hP
    generalize eith kp dp i = xp at *
    generalize eith kc dc i = xc at *
    refine Ret_rounds (S := Nat × List Ev × Nat × Nat) (fun s => X.length - s.1) (fun s fr G => s.1 ≤ X.length ∧ s.2.1.length ≤ 24 ∧ ((X.drop s.1 ++ Y).map bare).Perm s.2.1 ∧ (∀ y ∈ s.2.1, bare y = y) ∧ fr 7 = .slice kp K.length kc ∧ fr 9 = .slice dp T.length dc ∧ fr 11 = .func (.func 24) #[] #[] ∧ fr 12 = .slice (some ⟨s.2.2.1, 0, none⟩) s.2.1.length s.2.2.2 ∧ fr 64 = .slice (some ⟨B, 0, none⟩) 2 2 ∧ fr 65 = .int .i64 2 ∧ fr 66 = .int .i64 (i : Int) ∧
        fr 14 = .slice xp X.length xc ∧ fr 70 = .slice xp X.length xc ∧ fr 71 = .int .i64 (X.length : Int) ∧ fr 72 = .int .i64 (s.1 : Int) ∧
        Sl G encN 6 (some ⟨s.2.2.1, 0, none⟩) s.2.1 ∧ CapOk 6 s.2.2.2 s.2.1.length ∧ hget G B = .cells false [.slice kp K.length kc, .slice dp T.length dc] ∧ Ext G3 G) (0, L, R, c1)
      ⟨Nat.zero_le _, hL, by rw [List.drop_zero]; exact hP, hLb, (by simp only [f7, FB, Nat.reduceEqDiff]), (by simp only [f9, FB, Nat.reduceEqDiff]), (by simp only [f11, FB, Nat.reduceEqDiff]), (by simp only [f12, FB, Nat.reduceEqDiff]), (by simp only [f64, FB, Nat.reduceEqDiff]), (by simp only [f65, FB, Nat.reduceEqDiff]), (by simp only [f66, FB, Nat.reduceEqDiff]), (by simp only [FB, Nat.reduceEqDiff]), (by simp only [FB, Nat.reduceEqDiff]), (by simp only [FB, Nat.reduceEqDiff]), by rfl, sL.app _, cL1, (Ext.refl.app).cells gB, hE.app⟩ ?_
    clear hP hLb f12 sL cL1 hB2 hL f7 f9 f11 f64 f65 f66
    rintro ⟨j, L, R, c1⟩ fr G5 ⟨hj, hL, hP, hLb, f7, f9, f11, f12, f64, f65, f66, f14, f70, f71, f72, sL, cL1, gB, hE5⟩ hM
    simp only at hj hL hP hLb f12 f72 sL cL1
    rw [Ret_code l8_6.eq_1]
    refine Ret_pad ?_
    have hE5l := hE5.len
    by_cases hltj : j < X.length
    · have sXX := fun Z : Heap => (sX G5 hE5).app Z
      have hld := fun Z => (sXX Z).loadCells encE_len hltj
      have hidx := fun c (k : IntKind) (H1 : Heap) => (sXX []).idx (c := c) (k := k) (H1 := H1) hltj
      have hwj : IntKind.i64.wrap ((j : Int) + 1) = ((j + 1 : Nat) : Int) := wrap_nat (by omega)
      have hlG : H.length ≤ G5.length := by omega
      have htm := htime _ (hXm _ (gt_mem hltj))
      have h0t : ¬ (gt X j).time < 0 := by omega
      have hst : ¬ (gt X j).seen < (gt X j).time := by omega
      have hris : 0 < j → ¬ (gt X j).time < (gt X (j - 1)).time := fun h0 => by
        have h1 : j - 1 < X.length := by omega
        rw [gt_lt hltj, gt_lt h1]
        have := List.pairwise_iff_getElem.mp hXr (j - 1) j h1 hltj (by omega)
        omega
      have hL0 : bare (gt X j) ∈ L := hP.mem_iff.mp (by
        rw [List.map_append]
        refine List.mem_append_left _ (List.mem_map.mpr ⟨gt X j, ?_, rfl⟩)
        rw [gt_lt hltj]
        exact List.mem_drop_iff_getElem.mpr ⟨0, by omega, by simp⟩)
      have hdr : X.drop j = gt X j :: X.drop (j + 1) := by rw [gt_lt hltj]; exact List.drop_eq_getElem_cons hltj
      rw [hdr] at hP
      have hld0 := fun (h0 : j - 1 < X.length) Z => (sXX Z).loadCell encE_len h0 (show 6 < 7 by decide)
      have hidx0 := fun (h0 : j - 1 < X.length) c (k : IntKind) (H1 : Heap) => (sXX []).idx (c := c) (k := k) (H1 := H1) h0
      generalize gt X j = x at *
      obtain ⟨G6, hG6⟩ : ∃ G6, G6 = G5 ++ [Blk.cells false (encE x)] := ⟨_, rfl⟩
      have l6 : G6.length = G5.length + 1 := by rw [hG6]; simp
      have hE6 : Ext G5 G6 := by rw [hG6]; exact Ext.refl.app
      have hB6 : hget G6 G5.length = .cells false (encE x) := by rw [hG6, hget_new0]; rfl
      have sL6 := hE6.sl sL
      have gB6 := hE6.cells gB
      by_cases h0 : j = 0
      · have hp : ¬ (0 : Int) < (j : Int) := by omega
        simp only [n8, r8, f7, f9, f11, f12, f14, f64, f65, f66, f70, f71, f72, int_lt_cast, hltj, hidx, hld, hlG, encE_len, encE_0, encE_1, encE_2, encE_3, encE_4, encE_5, encE_6, take_all, setAll_full, gt_iff_lt, hp, h0t, hst, SB, Nat.reduceLT, callee, aOp, ne_eq, Nat.reduceEqDiff, aBin, aUn, if_true, if_false, reduceCtorEq, frame0, place, notTuple, Nat.reduceAdd, Nat.reduceLeDiff, resVal, dite_true, dite_false, Int.reduceEq, Int.reduceLT, Int.reduceLE]
        rw [← hG6]
        refine find_loop (c1 := c1) sL6 (by omega) hB6 hL0 hLb (by simp only [f12, FB, Nat.reduceEqDiff]) (by simp only [FB, Nat.reduceEqDiff]) (by simp only [FB, Nat.reduceEqDiff]) fun fr' k hk hgt h17 hf1 hf2 => ?_
        have k7 : fr' 7 = .slice kp K.length kc := (hf1 7 (by decide)).trans (by simp only [f7, FB, Nat.reduceEqDiff])
        have k9 : fr' 9 = .slice dp T.length dc := (hf1 9 (by decide)).trans (by simp only [f9, FB, Nat.reduceEqDiff])
        have k11 : fr' 11 = .func (.func 24) #[] #[] := (hf1 11 (by decide)).trans (by simp only [f11, FB, Nat.reduceEqDiff])
        have k12 : fr' 12 = .slice (some ⟨R, 0, none⟩) L.length c1 := (hf1 12 (by decide)).trans (by simp only [f12, FB, Nat.reduceEqDiff])
        have k14 : fr' 14 = .slice xp X.length xc := (hf1 14 (by decide)).trans (by simp only [f14, FB, Nat.reduceEqDiff])
        have k64 : fr' 64 = .slice (some ⟨B, 0, none⟩) 2 2 := (hf2 64 (by decide) (by decide)).trans (by simp only [f64, FB, Nat.reduceEqDiff])
        have k65 : fr' 65 = .int .i64 2 := (hf2 65 (by decide) (by decide)).trans (by simp only [f65, FB, Nat.reduceEqDiff])
        have k66 : fr' 66 = .int .i64 (i : Int) := (hf2 66 (by decide) (by decide)).trans (by simp only [f66, FB, Nat.reduceEqDiff])
        have k70 : fr' 70 = .slice xp X.length xc := (hf2 70 (by decide) (by decide)).trans (by simp only [f70, FB, Nat.reduceEqDiff])
        have k71 : fr' 71 = .int .i64 (X.length : Int) := (hf2 71 (by decide) (by decide)).trans (by simp only [f71, FB, Nat.reduceEqDiff])
        have k72 : fr' 72 = .int .i64 (j : Int) := (hf2 72 (by decide) (by decide)).trans (by simp only [f72, FB, Nat.reduceEqDiff])
        have wk1 : IntKind.i64.wrap ((k : Int) + 1) = ((k + 1 : Nat) : Int) := wrap_nat (by omega)
        have hkne : ¬ ((k : Int) = (L.length : Int)) := by omega
        have hln : (L.eraseIdx k).length = L.length - 1 := by rw [List.length_eraseIdx, if_pos hk]
        have hP2 : ((X.drop (j + 1) ++ Y).map bare).Perm (L.eraseIdx k) := by
          have e1 := erase_perm hk
          rw [hgt] at e1
          have e2 := hP.trans e1.symm
          rw [List.cons_append, List.map_cons] at e2
          exact e2.cons_inv
        have hLb2 : ∀ y ∈ L.eraseIdx k, bare y = y := fun y hy => hLb y (List.mem_of_mem_eraseIdx hy)
        obtain ⟨p2, n2, c2, R2, c3, a1, a2, a3, a4⟩ := take_out (lim := H.length) (d := G6.length) sL6 cL1 hk (by omega)
        rcases a3 with ⟨rfl, a5, a6⟩ | ⟨rfl, a6⟩
        · have a6' := a6 [.dead]
          simp only [n8, r8, k7, k9, k11, k12, k14, k64, k65, k66, k70, k71, k72, h17, eq_false hkne, wk1, a1, a2, a6', hwj, SB, Nat.reduceLT, callee, aOp, ne_eq, Nat.reduceEqDiff, aBin, aUn, if_true, if_false, reduceCtorEq, frame0, place, notTuple, Nat.reduceAdd, Nat.reduceLeDiff, resVal, dite_true, dite_false, Int.reduceEq, Int.reduceLT, Int.reduceLE]
          exact hM (j + 1, L.eraseIdx k, R2, c3) _ _ ⟨by simp only; omega, by simp only; omega, hP2, hLb2, (by simp only [k7, FB, Nat.reduceEqDiff]), (by simp only [k9, FB, Nat.reduceEqDiff]), (by simp only [k11, FB, Nat.reduceEqDiff]), (by simp only [FB, Nat.reduceEqDiff]), (by simp only [k64, FB, Nat.reduceEqDiff]), (by simp only [k65, FB, Nat.reduceEqDiff]), (by simp only [k66, FB, Nat.reduceEqDiff]), (by simp only [k14, FB, Nat.reduceEqDiff]), (by simp only [k70, FB, Nat.reduceEqDiff]), (by simp only [k71, FB, Nat.reduceEqDiff]), (by simp only [FB, Nat.reduceEqDiff]), a5.app _, a4, (Ext.refl.app).cells gB6, (hE5.trans hE6).app⟩ (by simp only; omega)
        · have a6' := a6 [.dead]
          have a7 : (G6 ++ [Blk.dead]).set G6.length (.cells false ((L.eraseIdx k).flatMap encN)) = G6 ++ [.cells false ((L.eraseIdx k).flatMap encN)] := by simp [List.set_append]
          rw [a7] at a6'
          simp only [n8, r8, k7, k9, k11, k12, k14, k64, k65, k66, k70, k71, k72, h17, eq_false hkne, wk1, a1, a2, a6', hwj, SB, Nat.reduceLT, callee, aOp, ne_eq, Nat.reduceEqDiff, aBin, aUn, if_true, if_false, reduceCtorEq, frame0, place, notTuple, Nat.reduceAdd, Nat.reduceLeDiff, resVal, dite_true, dite_false, Int.reduceEq, Int.reduceLT, Int.reduceLE]
          exact hM (j + 1, L.eraseIdx k, G6.length, c3) _ _ ⟨by simp only; omega, by simp only; omega, hP2, hLb2, (by simp only [k7, FB, Nat.reduceEqDiff]), (by simp only [k9, FB, Nat.reduceEqDiff]), (by simp only [k11, FB, Nat.reduceEqDiff]), (by simp only [FB, Nat.reduceEqDiff]), (by simp only [k64, FB, Nat.reduceEqDiff]), (by simp only [k65, FB, Nat.reduceEqDiff]), (by simp only [k66, FB, Nat.reduceEqDiff]), (by simp only [k14, FB, Nat.reduceEqDiff]), (by simp only [k70, FB, Nat.reduceEqDiff]), (by simp only [k71, FB, Nat.reduceEqDiff]), (by simp only [FB, Nat.reduceEqDiff]), Sl.row encN_len (ro := false) (by rw [hget_new0]; rfl), a4, (Ext.refl.app).cells gB6, (hE5.trans hE6).app⟩ (by simp only; omega)
      · have hp : (0 : Int) < (j : Int) := by omega
        have hw0 : IntKind.i64.wrap ((j : Int) - 1) = ((j - 1 : Nat) : Int) := wrap_pred (by omega) (by omega)
        have hj0 : j - 1 < X.length := by omega
        have hr0 := hris (by omega)
        simp only [n8, r8, f7, f9, f11, f12, f14, f64, f65, f66, f70, f71, f72, int_lt_cast, hltj, hidx, hld, hlG, encE_len, encE_0, encE_1, encE_2, encE_3, encE_4, encE_5, encE_6, take_all, setAll_full, gt_iff_lt, hp, hw0, hld0 hj0, hidx0 hj0, hr0, h0t, hst, SB, Nat.reduceLT, callee, aOp, ne_eq, Nat.reduceEqDiff, aBin, aUn, if_true, if_false, reduceCtorEq, frame0, place, notTuple, Nat.reduceAdd, Nat.reduceLeDiff, resVal, dite_true, dite_false, Int.reduceEq, Int.reduceLT, Int.reduceLE]
        rw [← hG6]
        refine find_loop (c1 := c1) sL6 (by omega) hB6 hL0 hLb (by simp only [f12, FB, Nat.reduceEqDiff]) (by simp only [FB, Nat.reduceEqDiff]) (by simp only [FB, Nat.reduceEqDiff]) fun fr' k hk hgt h17 hf1 hf2 => ?_
        have k7 : fr' 7 = .slice kp K.length kc := (hf1 7 (by decide)).trans (by simp only [f7, FB, Nat.reduceEqDiff])
        have k9 : fr' 9 = .slice dp T.length dc := (hf1 9 (by decide)).trans (by simp only [f9, FB, Nat.reduceEqDiff])
        have k11 : fr' 11 = .func (.func 24) #[] #[] := (hf1 11 (by decide)).trans (by simp only [f11, FB, Nat.reduceEqDiff])
        have k12 : fr' 12 = .slice (some ⟨R, 0, none⟩) L.length c1 := (hf1 12 (by decide)).trans (by simp only [f12, FB, Nat.reduceEqDiff])
        have k14 : fr' 14 = .slice xp X.length xc := (hf1 14 (by decide)).trans (by simp only [f14, FB, Nat.reduceEqDiff])
        have k64 : fr' 64 = .slice (some ⟨B, 0, none⟩) 2 2 := (hf2 64 (by decide) (by decide)).trans (by simp only [f64, FB, Nat.reduceEqDiff])
        have k65 : fr' 65 = .int .i64 2 := (hf2 65 (by decide) (by decide)).trans (by simp only [f65, FB, Nat.reduceEqDiff])
        have k66 : fr' 66 = .int .i64 (i : Int) := (hf2 66 (by decide) (by decide)).trans (by simp only [f66, FB, Nat.reduceEqDiff])
        have k70 : fr' 70 = .slice xp X.length xc := (hf2 70 (by decide) (by decide)).trans (by simp only [f70, FB, Nat.reduceEqDiff])
        have k71 : fr' 71 = .int .i64 (X.length : Int) := (hf2 71 (by decide) (by decide)).trans (by simp only [f71, FB, Nat.reduceEqDiff])
        have k72 : fr' 72 = .int .i64 (j : Int) := (hf2 72 (by decide) (by decide)).trans (by simp only [f72, FB, Nat.reduceEqDiff])
        have wk1 : IntKind.i64.wrap ((k : Int) + 1) = ((k + 1 : Nat) : Int) := wrap_nat (by omega)
        have hkne : ¬ ((k : Int) = (L.length : Int)) := by omega
        have hln : (L.eraseIdx k).length = L.length - 1 := by rw [List.length_eraseIdx, if_pos hk]
        have hP2 : ((X.drop (j + 1) ++ Y).map bare).Perm (L.eraseIdx k) := by
          have e1 := erase_perm hk
          rw [hgt] at e1
          have e2 := hP.trans e1.symm
          rw [List.cons_append, List.map_cons] at e2
          exact e2.cons_inv
        have hLb2 : ∀ y ∈ L.eraseIdx k, bare y = y := fun y hy => hLb y (List.mem_of_mem_eraseIdx hy)
        obtain ⟨p2, n2, c2, R2, c3, a1, a2, a3, a4⟩ := take_out (lim := H.length) (d := G6.length) sL6 cL1 hk (by omega)
        rcases a3 with ⟨rfl, a5, a6⟩ | ⟨rfl, a6⟩
        · have a6' := a6 [.dead]
          simp only [n8, r8, k7, k9, k11, k12, k14, k64, k65, k66, k70, k71, k72, h17, eq_false hkne, wk1, a1, a2, a6', hwj, SB, Nat.reduceLT, callee, aOp, ne_eq, Nat.reduceEqDiff, aBin, aUn, if_true, if_false, reduceCtorEq, frame0, place, notTuple, Nat.reduceAdd, Nat.reduceLeDiff, resVal, dite_true, dite_false, Int.reduceEq, Int.reduceLT, Int.reduceLE]
          exact hM (j + 1, L.eraseIdx k, R2, c3) _ _ ⟨by simp only; omega, by simp only; omega, hP2, hLb2, (by simp only [k7, FB, Nat.reduceEqDiff]), (by simp only [k9, FB, Nat.reduceEqDiff]), (by simp only [k11, FB, Nat.reduceEqDiff]), (by simp only [FB, Nat.reduceEqDiff]), (by simp only [k64, FB, Nat.reduceEqDiff]), (by simp only [k65, FB, Nat.reduceEqDiff]), (by simp only [k66, FB, Nat.reduceEqDiff]), (by simp only [k14, FB, Nat.reduceEqDiff]), (by simp only [k70, FB, Nat.reduceEqDiff]), (by simp only [k71, FB, Nat.reduceEqDiff]), (by simp only [FB, Nat.reduceEqDiff]), a5.app _, a4, (Ext.refl.app).cells gB6, (hE5.trans hE6).app⟩ (by simp only; omega)
        · have a6' := a6 [.dead]
          have a7 : (G6 ++ [Blk.dead]).set G6.length (.cells false ((L.eraseIdx k).flatMap encN)) = G6 ++ [.cells false ((L.eraseIdx k).flatMap encN)] := by simp [List.set_append]
          rw [a7] at a6'
          simp only [n8, r8, k7, k9, k11, k12, k14, k64, k65, k66, k70, k71, k72, h17, eq_false hkne, wk1, a1, a2, a6', hwj, SB, Nat.reduceLT, callee, aOp, ne_eq, Nat.reduceEqDiff, aBin, aUn, if_true, if_false, reduceCtorEq, frame0, place, notTuple, Nat.reduceAdd, Nat.reduceLeDiff, resVal, dite_true, dite_false, Int.reduceEq, Int.reduceLT, Int.reduceLE]
          exact hM (j + 1, L.eraseIdx k, G6.length, c3) _ _ ⟨by simp only; omega, by simp only; omega, hP2, hLb2, (by simp only [k7, FB, Nat.reduceEqDiff]), (by simp only [k9, FB, Nat.reduceEqDiff]), (by simp only [k11, FB, Nat.reduceEqDiff]), (by simp only [FB, Nat.reduceEqDiff]), (by simp only [k64, FB, Nat.reduceEqDiff]), (by simp only [k65, FB, Nat.reduceEqDiff]), (by simp only [k66, FB, Nat.reduceEqDiff]), (by simp only [k14, FB, Nat.reduceEqDiff]), (by simp only [k70, FB, Nat.reduceEqDiff]), (by simp only [k71, FB, Nat.reduceEqDiff]), (by simp only [FB, Nat.reduceEqDiff]), Sl.row encN_len (ro := false) (by rw [hget_new0]; rfl), a4, (Ext.refl.app).cells gB6, (hE5.trans hE6).app⟩ (by simp only; omega)
    · obtain rfl : j = X.length := by omega
      rw [List.drop_length, List.nil_append] at hP
      simp only [n8, r8, f7, f9, f11, f12, f14, f64, f65, f66, f70, f71, f72, int_lt_cast, hltj, hw1, SB, Nat.reduceLT, callee, aOp, ne_eq, Nat.reduceEqDiff, aBin, aUn, if_true, if_false, reduceCtorEq, frame0, place, notTuple, Nat.reduceAdd, Nat.reduceLeDiff, resVal, dite_true, dite_false, Int.reduceEq, Int.reduceLT, Int.reduceLE]
      rw [hY] at hP
      exact hN (i + 1, L, R, c1) _ _ ⟨by simp only; omega, hL, hP, hLb, (by simp only [f7, FB, Nat.reduceEqDiff]), (by simp only [f9, FB, Nat.reduceEqDiff]), (by simp only [f11, FB, Nat.reduceEqDiff]), (by simp only [f12, FB, Nat.reduceEqDiff]), (by simp only [f64, FB, Nat.reduceEqDiff]), (by simp only [f65, FB, Nat.reduceEqDiff]), (by simp only [FB, Nat.reduceEqDiff]), sL.app _, cL1, (Ext.refl.app).cells gB, hE5.app⟩ (by simp only; omega)
  · obtain rfl : i = 2 := by omega
    have hc2 : ¬ (((2 : Nat) : Int) < 2) := by omega
    simp only [n8, r8, f7, f9, f11, f12, f64, f65, f66, eq_false hc2, SB, Nat.reduceLT, callee, aOp, ne_eq, Nat.reduceEqDiff, aBin, aUn, if_true, if_false, reduceCtorEq, frame0, place, notTuple, Nat.reduceAdd, Nat.reduceLeDiff, resVal, dite_true, dite_false, Int.reduceEq, Int.reduceLT, Int.reduceLE]
    clear hN hP hLb sL cL1 gB f12 f64 f65 f66 hperm ltl lmem lris
    have hE4 := hE
    refine Ret_rounds (fun i => K.length - i) (fun i fr G => i ≤ K.length ∧ fr 7 = .slice kp K.length kc ∧ fr 9 = .slice dp T.length dc ∧ fr 11 = .func (.func 24) #[] #[] ∧ fr 133 = .slice kp K.length kc ∧ fr 134 = .int .i64 (K.length : Int) ∧ fr 135 = .int .i64 (i : Int) ∧ Ext G3 G) 0
      ⟨Nat.zero_le _, (by simp only [f7, FB, Nat.reduceEqDiff]), (by simp only [f9, FB, Nat.reduceEqDiff]), (by simp only [f11, FB, Nat.reduceEqDiff]), (by simp only [FB, Nat.reduceEqDiff]), (by simp only [FB, Nat.reduceEqDiff]), by rfl, hE4.app⟩ ?_
    clear f7 f9 f11
    rintro i fr G5 ⟨hi, f7, f9, f11, f133, f134, f135, hE5⟩ hN
    rw [Ret_code l8_4.eq_1]
    refine Ret_pad ?_
    have hE5l := hE5.len
    by_cases hlti : i < K.length
    · have sKX := fun Z : Heap => (hE5.sl sK3).app Z
      have hld := fun Z => (sKX Z).loadCells encE_len hlti
      have hidx := fun c (k : IntKind) (H1 : Heap) => (sKX []).idx (c := c) (k := k) (H1 := H1) hlti
      have hwi : IntKind.i64.wrap ((i : Int) + 1) = ((i + 1 : Nat) : Int) := wrap_nat (by omega)
      have hlG : H.length ≤ G5.length := by omega
      obtain ⟨pk, ck, ek, sk, _, _, _⟩ := slice_cut (vlo := none) (vhi := some (.int .i64 (i : Int))) (lo := 0) (hi := i) (hE5.sl sK3) cK encE_len (fun cap hcap => by rw [bv_010 (by omega) (by omega), Int.toNat_natCast]) (Nat.zero_le _) (by omega) (by omega)
      rw [Nat.sub_zero] at ek
      rw [List.drop_zero] at sk
      have hkl : (K.take i).length = i := by rw [List.length_take]; omega
      have hpair : ∀ j, j < i → sight (gt K i) = sight (gt K j) → (gt K i).time - (gt K j).time > 10 := fun j hj he => by
        have hj2 : j < K.length := by omega
        rw [gt_lt hlti, gt_lt hj2] at *
        exact List.pairwise_iff_getElem.mp hap1 j i hj2 hlti hj he
      have htm := htime _ (.inl (gt_mem hlti))
      have hfi := hfine _ (.inl (gt_mem hlti))
      generalize gt K i = x at *
      simp only [n8, r8, f7, f9, f11, f133, f134, f135, int_lt_cast, hlti, hidx, hld, hlG, encE_len, encE_0, encE_1, encE_2, encE_3, encE_4, encE_5, encE_6, take_all, setAll_full, ek, SB, Nat.reduceLT, callee, aOp, ne_eq, Nat.reduceEqDiff, aBin, aUn, if_true, if_false, reduceCtorEq, frame0, place, notTuple, Nat.reduceAdd, Nat.reduceLeDiff, resVal, dite_true, dite_false, Int.reduceEq, Int.reduceLT, Int.reduceLE]
      refine Ret_rounds (fun j => i - j) (fun j fr G => j ≤ i ∧ fr 7 = .slice kp K.length kc ∧ fr 9 = .slice dp T.length dc ∧ fr 11 = .func (.func 24) #[] #[] ∧ fr 19 = .pointer (some ⟨G5.length, 0, none⟩) ∧ fr 133 = .slice kp K.length kc ∧ fr 134 = .int .i64 (K.length : Int) ∧ fr 135 = .int .i64 (i : Int) ∧ fr 142 = .slice pk i ck ∧ fr 143 = .int .i64 (i : Int) ∧ fr 144 = .int .i64 (j : Int) ∧ hget G G5.length = .cells false (encE x) ∧ Ext G5 G ∧ G5.length < G.length) 0
        ⟨Nat.zero_le _, (by simp only [f7, FB, Nat.reduceEqDiff]), (by simp only [f9, FB, Nat.reduceEqDiff]), (by simp only [f11, FB, Nat.reduceEqDiff]), (by simp only [FB, Nat.reduceEqDiff]), (by simp only [f133, FB, Nat.reduceEqDiff]), (by simp only [f134, FB, Nat.reduceEqDiff]), (by simp only [f135, FB, Nat.reduceEqDiff]), (by simp only [FB, Nat.reduceEqDiff]), (by simp only [FB, Nat.reduceEqDiff]), by rfl, by rw [hget_new0]; rfl, Ext.refl.app, by simp⟩ ?_
      clear f7 f9 f11 f133 f134 f135
      rintro j fr G6 ⟨hj, f7, f9, f11, f19, f133, f134, f135, f142, f143, f144, hB6, hE6, hl6⟩ hM
      rw [Ret_code l8_3.eq_1]
      refine Ret_pad ?_
      have hE6l := hE6.len
      have hBX := fun X => (Ext.refl.app (X := X)).cells hB6
      by_cases hltj : j < i
      · have hjk : j < (K.take i).length := by omega
        have hgj : gt (K.take i) j = gt K j := by rw [gt_lt hjk, gt_lt (show j < K.length by omega), List.getElem_take]
        have skX := fun Z : Heap => (hE6.sl sk).app Z
        have hld2 := fun Z => (skX Z).loadCells encE_len hjk
        have hidx2 : ∀ (c : Nat) (k : IntKind) (H1 : Heap), idxK 7 (.slice pk i c) (.int k (j : Int)) H1 = some (.pointer (some (elt pk 7 j)), H1) := fun c k H1 => by
          have := (skX []).idx (c := c) (k := k) (H1 := H1) hjk
          rw [hkl] at this
          exact this
        rw [hgj] at hld2
        have hwj : IntKind.i64.wrap ((j : Int) + 1) = ((j + 1 : Nat) : Int) := wrap_nat (by omega)
        have hlG6 : H.length ≤ G6.length := by omega
        have hpj := hpair j hltj
        have htj := htime _ (.inl (gt_mem (show j < K.length by omega)))
        have hfj := hfine _ (.inl (gt_mem (show j < K.length by omega)))
        generalize gt K j = y at *
        unfold maxT at hfi hfj
        have wd : IntKind.i64.wrap (x.time - y.time) = x.time - y.time := wrap_id (by omega) (by omega)
        by_cases he : sight x = sight y
        · have h10 : ¬ x.time - y.time ≤ 10 := by have := hpj he; omega
          simp only [n8, r8, f7, f9, f11, f19, f133, f134, f135, f142, f143, f144, int_lt_cast, hltj, hidx2, hld2, hlG6, hBX, encE_len, encE_0, encE_1, encE_2, encE_3, encE_4, encE_5, encE_6, encE_scan, encN_len, take_all, setAll_full, alike_f, decide_eq_true he, wd, eq_false h10, hwj, SB, Nat.reduceLT, callee, aOp, ne_eq, Nat.reduceEqDiff, aBin, aUn, if_true, if_false, reduceCtorEq, frame0, place, notTuple, Nat.reduceAdd, Nat.reduceLeDiff, resVal, dite_true, dite_false, Int.reduceEq, Int.reduceLT, Int.reduceLE]
          exact hM (j + 1) _ _ ⟨by omega, (by simp only [f7, FB, Nat.reduceEqDiff]), (by simp only [f9, FB, Nat.reduceEqDiff]), (by simp only [f11, FB, Nat.reduceEqDiff]), (by simp only [f19, FB, Nat.reduceEqDiff]), (by simp only [f133, FB, Nat.reduceEqDiff]), (by simp only [f134, FB, Nat.reduceEqDiff]), (by simp only [f135, FB, Nat.reduceEqDiff]), (by simp only [f142, FB, Nat.reduceEqDiff]), (by simp only [f143, FB, Nat.reduceEqDiff]), (by simp only [FB, Nat.reduceEqDiff]), hBX _, hE6.app, by simp; omega⟩ (by omega)
        · simp only [n8, r8, f7, f9, f11, f19, f133, f134, f135, f142, f143, f144, int_lt_cast, hltj, hidx2, hld2, hlG6, hBX, encE_len, encE_0, encE_1, encE_2, encE_3, encE_4, encE_5, encE_6, encE_scan, encN_len, take_all, setAll_full, alike_f, decide_eq_false he, hwj, SB, Nat.reduceLT, callee, aOp, ne_eq, Nat.reduceEqDiff, aBin, aUn, if_true, if_false, reduceCtorEq, frame0, place, notTuple, Nat.reduceAdd, Nat.reduceLeDiff, resVal, dite_true, dite_false, Int.reduceEq, Int.reduceLT, Int.reduceLE]
          exact hM (j + 1) _ _ ⟨by omega, (by simp only [f7, FB, Nat.reduceEqDiff]), (by simp only [f9, FB, Nat.reduceEqDiff]), (by simp only [f11, FB, Nat.reduceEqDiff]), (by simp only [f19, FB, Nat.reduceEqDiff]), (by simp only [f133, FB, Nat.reduceEqDiff]), (by simp only [f134, FB, Nat.reduceEqDiff]), (by simp only [f135, FB, Nat.reduceEqDiff]), (by simp only [f142, FB, Nat.reduceEqDiff]), (by simp only [f143, FB, Nat.reduceEqDiff]), (by simp only [FB, Nat.reduceEqDiff]), hBX _, hE6.app, by simp; omega⟩ (by omega)
      · obtain rfl : j = i := by omega
        simp only [n8, r8, f7, f9, f11, f133, f134, f135, f142, f143, f144, int_lt_cast, hltj, hwi, SB, Nat.reduceLT, callee, aOp, ne_eq, Nat.reduceEqDiff, aBin, aUn, if_true, if_false, reduceCtorEq, frame0, place, notTuple, Nat.reduceAdd, Nat.reduceLeDiff, resVal, dite_true, dite_false, Int.reduceEq, Int.reduceLT, Int.reduceLE]
        exact hN (j + 1) _ _ ⟨by omega, (by simp only [f7, FB, Nat.reduceEqDiff]), (by simp only [f9, FB, Nat.reduceEqDiff]), (by simp only [f11, FB, Nat.reduceEqDiff]), (by simp only [f133, FB, Nat.reduceEqDiff]), (by simp only [f134, FB, Nat.reduceEqDiff]), (by simp only [FB, Nat.reduceEqDiff]), (hE5.trans hE6).app⟩ (by omega)
    · obtain rfl : i = K.length := by omega
      simp only [n8, r8, f7, f9, f11, f133, f134, f135, int_lt_cast, hlti, SB, Nat.reduceLT, callee, aOp, ne_eq, Nat.reduceEqDiff, aBin, aUn, if_true, if_false, reduceCtorEq, frame0, place, notTuple, Nat.reduceAdd, Nat.reduceLeDiff, resVal, dite_true, dite_false, Int.reduceEq, Int.reduceLT, Int.reduceLE]
      clear hN f133 f134 f135
      refine Ret_rounds (fun i => T.length - i) (fun i fr G => i ≤ T.length ∧ fr 7 = .slice kp K.length kc ∧ fr 11 = .func (.func 24) #[] #[] ∧ fr 164 = .slice dp T.length dc ∧ fr 165 = .int .i64 (T.length : Int) ∧ fr 166 = .int .i64 (i : Int) ∧ Ext G3 G) 0
        ⟨Nat.zero_le _, (by simp only [f7, FB, Nat.reduceEqDiff]), (by simp only [f11, FB, Nat.reduceEqDiff]), (by simp only [FB, Nat.reduceEqDiff]), (by simp only [FB, Nat.reduceEqDiff]), by rfl, hE5.app⟩ ?_
      clear f7 f9 f11
      rintro i fr G6 ⟨hi, f7, f11, f164, f165, f166, hE6⟩ hN
      rw [Ret_code l8_2.eq_1]
      refine Ret_pad ?_
      have hE6l := hE6.len
      by_cases hltt : i < T.length
      · have sTX := fun Z : Heap => (hE6.sl sT3).app Z
        have hld := fun Z => (sTX Z).loadCells encE_len hltt
        have hidx := fun c (k : IntKind) (H1 : Heap) => (sTX []).idx (c := c) (k := k) (H1 := H1) hltt
        have hwi : IntKind.i64.wrap ((i : Int) + 1) = ((i + 1 : Nat) : Int) := wrap_nat (by omega)
        have hlG : H.length ≤ G6.length := by omega
        have hnear := hap2 _ (gt_mem hltt)
        have htm := htime _ (.inr (gt_mem hltt))
        have hfi := hfine _ (.inr (gt_mem hltt))
        generalize gt T i = x at *
        simp only [n8, r8, f7, f11, f164, f165, f166, int_lt_cast, hltt, hidx, hld, hlG, encE_len, encE_0, encE_1, encE_2, encE_3, encE_4, encE_5, encE_6, take_all, setAll_full, SB, Nat.reduceLT, callee, aOp, ne_eq, Nat.reduceEqDiff, aBin, aUn, if_true, if_false, reduceCtorEq, frame0, place, notTuple, Nat.reduceAdd, Nat.reduceLeDiff, resVal, dite_true, dite_false, Int.reduceEq, Int.reduceLT, Int.reduceLE]
        refine Ret_rounds (fun j => K.length - j) (fun j fr G => j ≤ K.length ∧ fr 7 = .slice kp K.length kc ∧ fr 11 = .func (.func 24) #[] #[] ∧ fr 164 = .slice dp T.length dc ∧ fr 165 = .int .i64 (T.length : Int) ∧ fr 166 = .int .i64 (i : Int) ∧ fr 23 = .pointer (some ⟨G6.length, 0, none⟩) ∧ fr 24 = .bool (Met (nearK x) K j) ∧ fr 170 = .slice kp K.length kc ∧ fr 171 = .int .i64 (K.length : Int) ∧ fr 172 = .int .i64 (j : Int) ∧ hget G G6.length = .cells false (encE x) ∧ Ext G6 G ∧ G6.length < G.length) 0
          ⟨Nat.zero_le _, (by simp only [f7, FB, Nat.reduceEqDiff]), (by simp only [f11, FB, Nat.reduceEqDiff]), (by simp only [f164, FB, Nat.reduceEqDiff]), (by simp only [f165, FB, Nat.reduceEqDiff]), (by simp only [f166, FB, Nat.reduceEqDiff]), (by simp only [FB, Nat.reduceEqDiff]), (by simp only [Met_zero, FB, Nat.reduceEqDiff]), (by simp only [FB, Nat.reduceEqDiff]), (by simp only [FB, Nat.reduceEqDiff]), by rfl, by rw [hget_new0]; rfl, Ext.refl.app, by simp⟩ ?_
        clear f7 f11 f164 f165 f166
        rintro j fr G7 ⟨hj, f7, f11, f164, f165, f166, f23, f24, f170, f171, f172, hB7, hE7, hl7⟩ hM
        rw [Ret_code l8_1.eq_1]
        refine Ret_pad ?_
        have hE7l := hE7.len
        have hBX := fun X => (Ext.refl.app (X := X)).cells hB7
        by_cases hltj : j < K.length
        · have sKX := fun Z : Heap => ((hE6.trans hE7).sl sK3).app Z
          have hld2 := fun Z => (sKX Z).loadCells encE_len hltj
          have hidx2 := fun c (k : IntKind) (H1 : Heap) => (sKX []).idx (c := c) (k := k) (H1 := H1) hltj
          have hwj : IntKind.i64.wrap ((j : Int) + 1) = ((j + 1 : Nat) : Int) := wrap_nat (by omega)
          have hlG7 : H.length ≤ G7.length := by omega
          have htj := htime _ (.inl (gt_mem hltj))
          have hfj := hfine _ (.inl (gt_mem hltj))
          have hms := Met_succ (P := nearK x) hltj
          generalize gt K j = y at *
          unfold maxT at hfi hfj
          have wd : IntKind.i64.wrap (x.time - y.time) = x.time - y.time := wrap_id (by omega) (by omega)
          cases hb : Met (nearK x) K j with
          | true =>
            rw [hb, Bool.true_or] at hms
            rw [hb] at f24
            simp only [n8, r8, f7, f11, f164, f165, f166, f23, f170, f171, f172, int_lt_cast, hltj, hidx2, hld2, hlG7, hBX, encE_len, encE_0, encE_1, encE_2, encE_3, encE_4, encE_5, encE_6, encE_scan, encN_len, take_all, setAll_full, alike_f, ge_iff_le, wd, hwj, f24, SB, Nat.reduceLT, callee, aOp, ne_eq, Nat.reduceEqDiff, aBin, aUn, if_true, if_false, reduceCtorEq, frame0, place, notTuple, Nat.reduceAdd, Nat.reduceLeDiff, resVal, dite_true, dite_false, Int.reduceEq, Int.reduceLT, Int.reduceLE]
            exact hM (j + 1) _ _ ⟨by omega, (by simp only [f7, FB, Nat.reduceEqDiff]), (by simp only [f11, FB, Nat.reduceEqDiff]), (by simp only [f164, FB, Nat.reduceEqDiff]), (by simp only [f165, FB, Nat.reduceEqDiff]), (by simp only [f166, FB, Nat.reduceEqDiff]), (by simp only [f23, FB, Nat.reduceEqDiff]), (by simp only [hms, FB, Nat.reduceEqDiff]), (by simp only [f170, FB, Nat.reduceEqDiff]), (by simp only [f171, FB, Nat.reduceEqDiff]), (by simp only [FB, Nat.reduceEqDiff]), hBX _, hE7.app, by simp; omega⟩ (by omega)
          | false =>
            rw [hb, Bool.false_or] at hms
            rw [hb] at f24
            by_cases d1 : sight x = sight y
            case neg =>
              rw [decide_eq_false (show ¬ nearK x y from fun h => d1 h.1)] at hms
              simp only [n8, r8, f7, f11, f164, f165, f166, f23, f170, f171, f172, int_lt_cast, hltj, hidx2, hld2, hlG7, hBX, encE_len, encE_0, encE_1, encE_2, encE_3, encE_4, encE_5, encE_6, encE_scan, encN_len, take_all, setAll_full, alike_f, ge_iff_le, wd, hwj, f24, decide_eq_false d1, SB, Nat.reduceLT, callee, aOp, ne_eq, Nat.reduceEqDiff, aBin, aUn, if_true, if_false, reduceCtorEq, frame0, place, notTuple, Nat.reduceAdd, Nat.reduceLeDiff, resVal, dite_true, dite_false, Int.reduceEq, Int.reduceLT, Int.reduceLE]
              exact hM (j + 1) _ _ ⟨by omega, (by simp only [f7, FB, Nat.reduceEqDiff]), (by simp only [f11, FB, Nat.reduceEqDiff]), (by simp only [f164, FB, Nat.reduceEqDiff]), (by simp only [f165, FB, Nat.reduceEqDiff]), (by simp only [f166, FB, Nat.reduceEqDiff]), (by simp only [f23, FB, Nat.reduceEqDiff]), (by simp only [hms, FB, Nat.reduceEqDiff]), (by simp only [f170, FB, Nat.reduceEqDiff]), (by simp only [f171, FB, Nat.reduceEqDiff]), (by simp only [FB, Nat.reduceEqDiff]), hBX _, hE7.app, by simp; omega⟩ (by omega)
            by_cases d2 : y.time ≤ x.time
            case neg =>
              rw [decide_eq_false (show ¬ nearK x y from fun h => d2 h.2.1)] at hms
              simp only [n8, r8, f7, f11, f164, f165, f166, f23, f170, f171, f172, int_lt_cast, hltj, hidx2, hld2, hlG7, hBX, encE_len, encE_0, encE_1, encE_2, encE_3, encE_4, encE_5, encE_6, encE_scan, encN_len, take_all, setAll_full, alike_f, ge_iff_le, wd, hwj, f24, decide_eq_true d1, eq_false d2, SB, Nat.reduceLT, callee, aOp, ne_eq, Nat.reduceEqDiff, aBin, aUn, if_true, if_false, reduceCtorEq, frame0, place, notTuple, Nat.reduceAdd, Nat.reduceLeDiff, resVal, dite_true, dite_false, Int.reduceEq, Int.reduceLT, Int.reduceLE]
              exact hM (j + 1) _ _ ⟨by omega, (by simp only [f7, FB, Nat.reduceEqDiff]), (by simp only [f11, FB, Nat.reduceEqDiff]), (by simp only [f164, FB, Nat.reduceEqDiff]), (by simp only [f165, FB, Nat.reduceEqDiff]), (by simp only [f166, FB, Nat.reduceEqDiff]), (by simp only [f23, FB, Nat.reduceEqDiff]), (by simp only [hms, FB, Nat.reduceEqDiff]), (by simp only [f170, FB, Nat.reduceEqDiff]), (by simp only [f171, FB, Nat.reduceEqDiff]), (by simp only [FB, Nat.reduceEqDiff]), hBX _, hE7.app, by simp; omega⟩ (by omega)
            by_cases d3 : x.time - y.time ≤ 10
            case neg =>
              rw [decide_eq_false (show ¬ nearK x y from fun h => d3 h.2.2)] at hms
              simp only [n8, r8, f7, f11, f164, f165, f166, f23, f170, f171, f172, int_lt_cast, hltj, hidx2, hld2, hlG7, hBX, encE_len, encE_0, encE_1, encE_2, encE_3, encE_4, encE_5, encE_6, encE_scan, encN_len, take_all, setAll_full, alike_f, ge_iff_le, wd, hwj, f24, decide_eq_true d1, eq_true d2, eq_false d3, SB, Nat.reduceLT, callee, aOp, ne_eq, Nat.reduceEqDiff, aBin, aUn, if_true, if_false, reduceCtorEq, frame0, place, notTuple, Nat.reduceAdd, Nat.reduceLeDiff, resVal, dite_true, dite_false, Int.reduceEq, Int.reduceLT, Int.reduceLE]
              exact hM (j + 1) _ _ ⟨by omega, (by simp only [f7, FB, Nat.reduceEqDiff]), (by simp only [f11, FB, Nat.reduceEqDiff]), (by simp only [f164, FB, Nat.reduceEqDiff]), (by simp only [f165, FB, Nat.reduceEqDiff]), (by simp only [f166, FB, Nat.reduceEqDiff]), (by simp only [f23, FB, Nat.reduceEqDiff]), (by simp only [hms, FB, Nat.reduceEqDiff]), (by simp only [f170, FB, Nat.reduceEqDiff]), (by simp only [f171, FB, Nat.reduceEqDiff]), (by simp only [FB, Nat.reduceEqDiff]), hBX _, hE7.app, by simp; omega⟩ (by omega)
            rw [decide_eq_true (show nearK x y from ⟨d1, d2, d3⟩)] at hms
            simp only [n8, r8, f7, f11, f164, f165, f166, f23, f170, f171, f172, int_lt_cast, hltj, hidx2, hld2, hlG7, hBX, encE_len, encE_0, encE_1, encE_2, encE_3, encE_4, encE_5, encE_6, encE_scan, encN_len, take_all, setAll_full, alike_f, ge_iff_le, wd, hwj, f24, decide_eq_true d1, eq_true d2, eq_true d3, SB, Nat.reduceLT, callee, aOp, ne_eq, Nat.reduceEqDiff, aBin, aUn, if_true, if_false, reduceCtorEq, frame0, place, notTuple, Nat.reduceAdd, Nat.reduceLeDiff, resVal, dite_true, dite_false, Int.reduceEq, Int.reduceLT, Int.reduceLE]
            exact hM (j + 1) _ _ ⟨by omega, (by simp only [f7, FB, Nat.reduceEqDiff]), (by simp only [f11, FB, Nat.reduceEqDiff]), (by simp only [f164, FB, Nat.reduceEqDiff]), (by simp only [f165, FB, Nat.reduceEqDiff]), (by simp only [f166, FB, Nat.reduceEqDiff]), (by simp only [f23, FB, Nat.reduceEqDiff]), (by simp only [hms, FB, Nat.reduceEqDiff]), (by simp only [f170, FB, Nat.reduceEqDiff]), (by simp only [f171, FB, Nat.reduceEqDiff]), (by simp only [FB, Nat.reduceEqDiff]), hBX _, hE7.app, by simp; omega⟩ (by omega)
        · obtain rfl : j = K.length := by omega
          have hall : Met (nearK x) K K.length = true := Met_all hnear
          rw [hall] at f24
          simp only [n8, r8, f7, f11, f164, f165, f166, f23, f24, f170, f171, f172, int_lt_cast, hltj, hwi, SB, Nat.reduceLT, callee, aOp, ne_eq, Nat.reduceEqDiff, aBin, aUn, if_true, if_false, reduceCtorEq, frame0, place, notTuple, Nat.reduceAdd, Nat.reduceLeDiff, resVal, dite_true, dite_false, Int.reduceEq, Int.reduceLT, Int.reduceLE]
          exact hN (i + 1) _ _ ⟨by omega, (by simp only [f7, FB, Nat.reduceEqDiff]), (by simp only [f11, FB, Nat.reduceEqDiff]), (by simp only [f164, FB, Nat.reduceEqDiff]), (by simp only [f165, FB, Nat.reduceEqDiff]), (by simp only [FB, Nat.reduceEqDiff]), (hE6.trans hE7).app⟩ (by omega)
      · obtain rfl : i = T.length := by omega
        simp only [n8, r8, f7, f11, f164, f165, f166, int_lt_cast, hltt, awake_onF hA, SB, Nat.reduceLT, callee, aOp, ne_eq, Nat.reduceEqDiff, aBin, aUn, if_true, if_false, reduceCtorEq, frame0, place, notTuple, Nat.reduceAdd, Nat.reduceLeDiff, resVal, dite_true, dite_false, Int.reduceEq, Int.reduceLT, Int.reduceLE]
end Go.Proofs.Ytkppjkkkdpcgiaa.Fn

