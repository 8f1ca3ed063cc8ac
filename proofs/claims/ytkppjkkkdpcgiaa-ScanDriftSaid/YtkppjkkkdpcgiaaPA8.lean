/-
  Joined texts, 8 of 9. A part of the claim that the last text states.
-/
import Derived.Test.YtkppjkkkdpcgiaaPA7
namespace Go.Proofs.Ytkppjkkkdpcgiaa.Fn.SM
open Go.AM Go.AM.Sym Go.Sort
set_option maxRecDepth 100000
set_option linter.unusedVariables false
set_option linter.unusedSimpArgs false
set_option maxHeartbeats 4000000
def tlc : ACode → ACode
  | .seq _ b => b
  | x => x
def unb : ACode → ACode
  | .block _ b => b
  | x => x
def q1 : ACode := tlc (tlc (tlc (tlc (unb l81_1))))
def q2 : ACode := tlc (tlc q1)
def q3 : ACode := tlc q2
def hdc : ACode → ACode
  | .seq a _ => a
  | x => x
def p1 : ACode := hdc (unb l81_1)
def p2 : ACode := hdc (tlc (unb l81_1))
def p3 : ACode := hdc (tlc (tlc (unb l81_1)))
def p4 : ACode := hdc (tlc (tlc (tlc (unb l81_1))))
theorem body_eq : l81_1 = .block 1 (.seq p1 (.seq p2 (.seq p3 (.seq p4 q1)))) := rfl
def p5 : ACode := hdc q2
theorem q2_eq : q2 = .seq p5 q3 := rfl
def p6 : ACode := hdc q1
def p7 : ACode := hdc (tlc q1)
theorem q1_eq : q1 = .seq p6 (.seq p7 q2) := rfl
def Done (G : Heap) (B n : Nat) (c : Go.Scan.Mk → Go.Scan.Mk → Int) (a b : Nat) (d : Array Go.Scan.Mk) (X : Heap) (v : Value) (H' : Heap) : Prop :=
  ∃ d' Y, d'.size = n ∧ PermIn a b d d' ∧ SortedIn (ltC c) a b d' ∧ v = .tuple #[] ∧ H' = DH encK G B d' ++ (X ++ Y)
theorem Done.perm [OB] {G : Heap} {B n : Nat} {c : Go.Scan.Mk → Go.Scan.Mk → Int} {a b : Nat} {d d1 : Array Go.Scan.Mk} {X Y : Heap} {v : Value} {H' : Heap} (h : Done G B n c a b d1 (X ++ Y) v H') (hP : PermIn a b d d1) : Done G B n c a b d X v H' := by
  obtain ⟨d', Z, h1, h2, h3, h4, h5⟩ := h
  exact ⟨d', Y ++ Z, h1, permIn_trans _ _ _ _ _ hP h2, h3, h4, by rw [h5]; simp⟩
theorem pdq3 [OB] {G X : Heap} {B lim cap n : Nat} {p : Option Addr} {c : Go.Scan.Mk → Go.Scan.Mk → Int} {cl : FuncId} {cs : List Value} (hp : p = some ⟨B, 0, none⟩) (hB : B < G.length) (hl : lim ≤ B) (hn2 : n < 2 ^ 61) (hc : ∀ (mp : Bool) (lim : Nat) (x y : Go.Scan.Mk) (H : Heap) (Q : Value → Heap → Prop), CallR E mp lim cl (.agg (encK x).toArray :: .agg (encK y).toArray :: cs) H Q = Q (.int .i64 (c x y)) H) (hS : SWO (ltC c)) {d : Array Go.Scan.Mk} {a b v lm m : Nat} {wb wp : Bool} {fr : Nat → Value} {L : List AItem} (hT : ∀ (a b lm : Nat) (wb wp : Bool) (d : Array Go.Scan.Mk) (X : Heap) (fr : Nat → Value), b - a < m → a ≤ b → b ≤ n → d.size = n → Below (ltC c) a b d → lm < 2 ^ 60 → fr 0 = .slice p n cap → fr 1 = .int .i64 (a : Int) → fr 2 = .int .i64 (b : Int) → fr 3 = .int .i64 (lm : Int) → fr 4 = .func (.func cl) #[] cs.toArray → fr 10 = .bool wb → fr 11 = .bool wp → Ret E a81 lim L fr (DH encK G B d ++ X) (Done G B n c a b d X)) (hC : ∀ (a b lm : Nat) (d : Array Go.Scan.Mk) (X : Heap), b - a < m → a ≤ b → b ≤ n → d.size = n → Below (ltC c) a b d → lm < 2 ^ 60 → ∃ d' Y, d'.size = n ∧ PermIn a b d d' ∧ SortedIn (ltC c) a b d' ∧ ∀ Q, CallR E false lim 81 [.slice p n cap, .int .i64 (a : Int), .int .i64 (b : Int), .int .i64 (lm : Int), .func (.func cl) #[] cs.toArray] (DH encK G B d ++ X) Q = Q (.tuple #[]) (DH encK G B d' ++ (X ++ Y))) (hm : b - a ≤ m) (hd : d.size = n) (hb : b ≤ n) (hv : a ≤ v ∧ v < b) (hlm : lm < 2 ^ 60) (hBl : Below (ltC c) a b d) (g0 : fr 0 = .slice p n cap) (g1 : fr 1 = .int .i64 (a : Int)) (g2 : fr 2 = .int .i64 (b : Int)) (g3 : fr 3 = .int .i64 (lm : Int)) (g4 : fr 4 = .func (.func cl) #[] cs.toArray) (g10 : fr 10 = .bool wb) (g11 : fr 11 = .bool wp) (g12 : fr 12 = .int .i64 ((b - a : Nat) : Int)) (g13 : fr 13 = .int .i64 (v : Int)) :
    Ret E a81 lim (.code q3 :: .inBlock 1 :: L) fr (DH encK G B d ++ X) (Done G B n c a b d X) := by
  simp only [q3, q2, q1, tlc, unb, l81_1]
  have ld := fun (i : Nat) (X : Heap) (d : Array Go.Scan.Mk) (hd : d.size = n) (hi : i < n) => DH_ld (X := X) (d := d) (i := i) hp hB encK_len (by omega); have st := fun (i : Nat) (X : Heap) (d : Array Go.Scan.Mk) (hd : d.size = n) (hi : i < n) (y : Go.Scan.Mk) => DH_st (X := X) (d := d) (i := i) (y := y) hp hB hl encK_len (by omega); have ix := fun (i : Nat) (hi : i < n) c (k : IntKind) (H : Heap) => DH_idx (e := 3) (i := i) (n := n) (c := c) (k := k) (H := H) hp hi
  have hw0 : 0 < a → IntKind.i64.wrap ((a : Int) - 1) = ((a - 1 : Nat) : Int) := fun h => wrap_pred h (by omega)
  have i1 : v < n := by omega
  by_cases c1 : 0 < a ∧ ¬ c d[a - 1]! d[v]! < 0
  · obtain ⟨c1, c2⟩ := c1
    have i2 : a - 1 < n := by omega
    have hpe := fun Q => peq_ok (X := X) (cap := cap) (a := a) (b := b) (v := v) (Q := Q) hp hB hl hn2 hc hd hb hv.1 hv.2
    generalize hx : partitionEqual (ltC c) d a b v = r at hpe
    obtain ⟨mid, d4⟩ := r
    obtain ⟨r1, r2, r3, r4, r5⟩ := round_eq hS (partitionEqual_holds (ltC c)) c1 hv.1 hv.2 (by omega) hBl (by simp [ltC, c2]) hx
    have hw0' := hw0 c1
    simp only [n81, r81, g0, g1, g2, g3, g4, g10, g11, g12, g13, c1, c2, hw0', ld, st, ix, List.append_nil, Array.size_setIfInBounds, encK_len, hd, i1, i2, hc, hpe, SB, Nat.reduceLT, callee, aOp, ne_eq, Nat.reduceEqDiff, aBin, aUn, if_true, if_false, reduceCtorEq, frame0, place, notTuple, Nat.reduceAdd, Nat.reduceLeDiff, resVal, dite_true, dite_false, Int.reduceEq, Int.reduceLT, Int.reduceLE]
    exact (hT mid b lm wb wp d4 X _ (by omega) r2 hb (by omega) r4 hlm (by simp only [g0, FB, Nat.reduceEqDiff]) (by simp only [FB, Nat.reduceEqDiff]) (by simp only [g2, FB, Nat.reduceEqDiff]) (by simp only [g3, FB, Nat.reduceEqDiff]) (by simp only [g4, FB, Nat.reduceEqDiff]) (by simp only [g10, FB, Nat.reduceEqDiff]) (by simp only [g11, FB, Nat.reduceEqDiff])).mono fun v H' ⟨d', Y, s1, s2, s3, s4, s5⟩ => ⟨d', Y, s1, (r5 d' s2 s3).1, (r5 d' s2 s3).2, s4, s5⟩
  · have hpt := fun Q => part_sort (X := X) (cap := cap) (a := a) (b := b) (v := v) (Q := Q) hp hB hl hn2 hc hd hb hv.1 hv.2
    generalize hx : Sort.partition (ltC c) d a b v = r at hpt
    obtain ⟨mid, ap, d4⟩ := r
    obtain ⟨r1, r2, r3, r4, r5, r6, r7⟩ := round_part hS (partition_holds (ltC c)) hv.1 hv.2 (by omega) hBl hx
    simp only at hpt
    have hw1 : IntKind.i64.wrap ((mid : Int) - (a : Int)) = ((mid - a : Nat) : Int) := wrap_int (by omega) (by omega)
    have hw2 : IntKind.i64.wrap ((b : Int) - (mid : Int)) = ((b - mid : Nat) : Int) := wrap_int (by omega) (by omega)
    have hw3 : IntKind.i64.wrap ((mid : Int) + 1) = ((mid + 1 : Nat) : Int) := wrap_nat (by omega)
    have hq : ((b - a : Nat) : Int).tdiv 8 = (((b - a) / 8 : Nat) : Int) := tdiv_nat (b := 8)
    have hw4 : IntKind.i64.wrap (((b - a) / 8 : Nat) : Int) = (((b - a) / 8 : Nat) : Int) := wrap_int rfl (by omega)
    have hor : (0 < a ∧ c d[a - 1]! d[v]! < 0) ∨ ¬ 0 < a := by
      by_cases q : 0 < a
      · exact .inl ⟨q, Classical.byContradiction fun q2 => c1 ⟨q, q2⟩⟩
      · exact .inr q
    by_cases c5 : mid - a < b - mid
    · obtain ⟨dL, Y, l1, l2, l3, l4⟩ := hC a mid lm d4 X (by omega) r1 (by omega) (by omega) r4 hlm
      obtain ⟨k1, k2⟩ := r6 dL l2 l3
      rcases hor with ⟨c2, c3⟩ | c2
      · have hw0' := hw0 c2
        have i2 : a - 1 < n := by omega
        simp only [n81, r81, g0, g1, g2, g3, g4, g10, g11, g12, g13, c2, c3, hw0', ld, st, ix, List.append_nil, Array.size_setIfInBounds, encK_len, hd, i1, i2, hc, hpt, hw1, hw2, hw3, hq, hw4, c5, l4, SB, Nat.reduceLT, callee, aOp, ne_eq, Nat.reduceEqDiff, aBin, aUn, if_true, if_false, reduceCtorEq, frame0, place, notTuple, Nat.reduceAdd, Nat.reduceLeDiff, resVal, dite_true, dite_false, Int.reduceEq, Int.reduceLT, Int.reduceLE]
        exact (hT (mid + 1) b lm (decide ((b - a) / 8 ≤ mid - a)) ap dL (X ++ Y) _ (by omega) (by omega) hb l1 k1 hlm (by simp only [g0, FB, Nat.reduceEqDiff]) (by simp only [FB, Nat.reduceEqDiff]) (by simp only [g2, FB, Nat.reduceEqDiff]) (by simp only [g3, FB, Nat.reduceEqDiff]) (by simp only [g4, FB, Nat.reduceEqDiff]) (by simp only [FB, Nat.reduceEqDiff]) (by simp only [FB, Nat.reduceEqDiff])).mono fun v H' ⟨d', Z, s1, s2, s3, s4, s5⟩ => ⟨d', Y ++ Z, s1, (k2 d' s2 s3).1, (k2 d' s2 s3).2, s4, by rw [s5]; simp⟩
      · simp only [n81, r81, g0, g1, g2, g3, g4, g10, g11, g12, g13, c2, ld, st, ix, List.append_nil, Array.size_setIfInBounds, encK_len, hd, i1, hc, hpt, hw1, hw2, hw3, hq, hw4, c5, l4, SB, Nat.reduceLT, callee, aOp, ne_eq, Nat.reduceEqDiff, aBin, aUn, if_true, if_false, reduceCtorEq, frame0, place, notTuple, Nat.reduceAdd, Nat.reduceLeDiff, resVal, dite_true, dite_false, Int.reduceEq, Int.reduceLT, Int.reduceLE]
        exact (hT (mid + 1) b lm (decide ((b - a) / 8 ≤ mid - a)) ap dL (X ++ Y) _ (by omega) (by omega) hb l1 k1 hlm (by simp only [g0, FB, Nat.reduceEqDiff]) (by simp only [FB, Nat.reduceEqDiff]) (by simp only [g2, FB, Nat.reduceEqDiff]) (by simp only [g3, FB, Nat.reduceEqDiff]) (by simp only [g4, FB, Nat.reduceEqDiff]) (by simp only [FB, Nat.reduceEqDiff]) (by simp only [FB, Nat.reduceEqDiff])).mono fun v H' ⟨d', Z, s1, s2, s3, s4, s5⟩ => ⟨d', Y ++ Z, s1, (k2 d' s2 s3).1, (k2 d' s2 s3).2, s4, by rw [s5]; simp⟩
    · obtain ⟨dL, Y, l1, l2, l3, l4⟩ := hC (mid + 1) b lm d4 X (by omega) (by omega) hb (by omega) r5 hlm
      obtain ⟨k1, k2⟩ := r7 dL l2 l3
      rcases hor with ⟨c2, c3⟩ | c2
      · have hw0' := hw0 c2
        have i2 : a - 1 < n := by omega
        simp only [n81, r81, g0, g1, g2, g3, g4, g10, g11, g12, g13, c2, c3, hw0', ld, st, ix, List.append_nil, Array.size_setIfInBounds, encK_len, hd, i1, i2, hc, hpt, hw1, hw2, hw3, hq, hw4, c5, l4, SB, Nat.reduceLT, callee, aOp, ne_eq, Nat.reduceEqDiff, aBin, aUn, if_true, if_false, reduceCtorEq, frame0, place, notTuple, Nat.reduceAdd, Nat.reduceLeDiff, resVal, dite_true, dite_false, Int.reduceEq, Int.reduceLT, Int.reduceLE]
        exact (hT a mid lm (decide ((b - a) / 8 ≤ b - mid)) ap dL (X ++ Y) _ (by omega) r1 (by omega) l1 k1 hlm (by simp only [g0, FB, Nat.reduceEqDiff]) (by simp only [g1, FB, Nat.reduceEqDiff]) (by simp only [FB, Nat.reduceEqDiff]) (by simp only [g3, FB, Nat.reduceEqDiff]) (by simp only [g4, FB, Nat.reduceEqDiff]) (by simp only [FB, Nat.reduceEqDiff]) (by simp only [FB, Nat.reduceEqDiff])).mono fun v H' ⟨d', Z, s1, s2, s3, s4, s5⟩ => ⟨d', Y ++ Z, s1, (k2 d' s2 s3).1, (k2 d' s2 s3).2, s4, by rw [s5]; simp⟩
      · simp only [n81, r81, g0, g1, g2, g3, g4, g10, g11, g12, g13, c2, ld, st, ix, List.append_nil, Array.size_setIfInBounds, encK_len, hd, i1, hc, hpt, hw1, hw2, hw3, hq, hw4, c5, l4, SB, Nat.reduceLT, callee, aOp, ne_eq, Nat.reduceEqDiff, aBin, aUn, if_true, if_false, reduceCtorEq, frame0, place, notTuple, Nat.reduceAdd, Nat.reduceLeDiff, resVal, dite_true, dite_false, Int.reduceEq, Int.reduceLT, Int.reduceLE]
        exact (hT a mid lm (decide ((b - a) / 8 ≤ b - mid)) ap dL (X ++ Y) _ (by omega) r1 (by omega) l1 k1 hlm (by simp only [g0, FB, Nat.reduceEqDiff]) (by simp only [g1, FB, Nat.reduceEqDiff]) (by simp only [FB, Nat.reduceEqDiff]) (by simp only [g3, FB, Nat.reduceEqDiff]) (by simp only [g4, FB, Nat.reduceEqDiff]) (by simp only [FB, Nat.reduceEqDiff]) (by simp only [FB, Nat.reduceEqDiff])).mono fun v H' ⟨d', Z, s1, s2, s3, s4, s5⟩ => ⟨d', Y ++ Z, s1, (k2 d' s2 s3).1, (k2 d' s2 s3).2, s4, by rw [s5]; simp⟩
theorem pdq2 [OB] {G X : Heap} {B lim cap n : Nat} {p : Option Addr} {c : Go.Scan.Mk → Go.Scan.Mk → Int} {cl : FuncId} {cs : List Value} (hp : p = some ⟨B, 0, none⟩) (hB : B < G.length) (hl : lim ≤ B) (hn2 : n < 2 ^ 61) (hc : ∀ (mp : Bool) (lim : Nat) (x y : Go.Scan.Mk) (H : Heap) (Q : Value → Heap → Prop), CallR E mp lim cl (.agg (encK x).toArray :: .agg (encK y).toArray :: cs) H Q = Q (.int .i64 (c x y)) H) (hS : SWO (ltC c)) {d : Array Go.Scan.Mk} {a b v h lm m : Nat} {wb wp : Bool} {fr : Nat → Value} {L : List AItem} (hT : ∀ (a b lm : Nat) (wb wp : Bool) (d : Array Go.Scan.Mk) (X : Heap) (fr : Nat → Value), b - a < m → a ≤ b → b ≤ n → d.size = n → Below (ltC c) a b d → lm < 2 ^ 60 → fr 0 = .slice p n cap → fr 1 = .int .i64 (a : Int) → fr 2 = .int .i64 (b : Int) → fr 3 = .int .i64 (lm : Int) → fr 4 = .func (.func cl) #[] cs.toArray → fr 10 = .bool wb → fr 11 = .bool wp → Ret E a81 lim L fr (DH encK G B d ++ X) (Done G B n c a b d X)) (hC : ∀ (a b lm : Nat) (d : Array Go.Scan.Mk) (X : Heap), b - a < m → a ≤ b → b ≤ n → d.size = n → Below (ltC c) a b d → lm < 2 ^ 60 → ∃ d' Y, d'.size = n ∧ PermIn a b d d' ∧ SortedIn (ltC c) a b d' ∧ ∀ Q, CallR E false lim 81 [.slice p n cap, .int .i64 (a : Int), .int .i64 (b : Int), .int .i64 (lm : Int), .func (.func cl) #[] cs.toArray] (DH encK G B d ++ X) Q = Q (.tuple #[]) (DH encK G B d' ++ (X ++ Y))) (hm : b - a ≤ m) (hd : d.size = n) (hb : b ≤ n) (hv : a ≤ v ∧ v < b) (hlm : lm < 2 ^ 60) (hh : h ≤ 2) (hBl : Below (ltC c) a b d) (g0 : fr 0 = .slice p n cap) (g1 : fr 1 = .int .i64 (a : Int)) (g2 : fr 2 = .int .i64 (b : Int)) (g3 : fr 3 = .int .i64 (lm : Int)) (g4 : fr 4 = .func (.func cl) #[] cs.toArray) (g10 : fr 10 = .bool wb) (g11 : fr 11 = .bool wp) (g12 : fr 12 = .int .i64 ((b - a : Nat) : Int)) (g13 : fr 13 = .int .i64 (v : Int)) (g14 : fr 14 = .int .i64 (h : Int)) :
    Ret E a81 lim (.code q2 :: .inBlock 1 :: L) fr (DH encK G B d ++ X) (Done G B n c a b d X) := by
  have h3 := fun d fr hd hBl => pdq3 (X := X) (d := d) (fr := fr) (a := a) (b := b) (v := v) (lm := lm) (wb := wb) (wp := wp) hp hB hl hn2 hc hS hT hC hm hd hb hv hlm hBl
  by_cases c1 : wb = true ∧ wp = true ∧ h = 1
  · obtain ⟨rfl, rfl, rfl⟩ := c1
    have hpi := fun Q => pis_ok (X := X) (cap := cap) (a := a) (b := b) (Q := Q) hp hB hl hn2 hc hd hb (by omega)
    have hps := partialInsertionSort_holds hS d a b (by omega) (by omega) hBl
    generalize partialInsertionSort (ltC c) d a b = r at hpi hps
    obtain ⟨d3, fl⟩ := r
    obtain ⟨P3, S3⟩ := hps
    simp only at hpi P3 S3
    have g14' : fr 14 = .int .i64 1 := g14
    have hd3 : d3.size = n := by rw [P3.1]; exact hd
    cases fl with
    | true =>
      rw [Ret_code q2_eq]; simp only [p5, hdc, tlc, unb, q1, q2, l81_1]
      simp only [n81, r81, g0, g1, g2, g3, g4, g10, g11, g12, g13, g14', hpi, SB, Nat.reduceLT, callee, aOp, ne_eq, Nat.reduceEqDiff, aBin, aUn, if_true, if_false, reduceCtorEq, frame0, place, notTuple, Nat.reduceAdd, Nat.reduceLeDiff, resVal, dite_true, dite_false, Int.reduceEq, Int.reduceLT, Int.reduceLE]
      exact ⟨d3, [], hd3, P3, S3 rfl, rfl, by simp⟩
    | false =>
      have hB3 := hBl.perm (by omega) P3
      have := h3 d3
      rw [Ret_code q2_eq]; simp only [p5, hdc, tlc, unb, q1, q2, l81_1]
      simp only [n81, r81, g0, g1, g2, g3, g4, g10, g11, g12, g13, g14', hpi, SB, Nat.reduceLT, callee, aOp, ne_eq, Nat.reduceEqDiff, aBin, aUn, if_true, if_false, reduceCtorEq, frame0, place, notTuple, Nat.reduceAdd, Nat.reduceLeDiff, resVal, dite_true, dite_false, Int.reduceEq, Int.reduceLT, Int.reduceLE]
      refine Ret.mono (h3 d3 _ hd3 hB3 (by simp only [g0, FB, Nat.reduceEqDiff]) (by simp only [g1, FB, Nat.reduceEqDiff]) (by simp only [g2, FB, Nat.reduceEqDiff]) (by simp only [g3, FB, Nat.reduceEqDiff]) (by simp only [g4, FB, Nat.reduceEqDiff]) (by simp only [g10, FB, Nat.reduceEqDiff]) (by simp only [g11, FB, Nat.reduceEqDiff]) (by simp only [g12, FB, Nat.reduceEqDiff]) (by simp only [g13, FB, Nat.reduceEqDiff])) fun v' H' hq => ?_
      exact Done.perm (Y := []) (by rw [List.append_nil]; exact hq) P3
  · have h3' := h3 d
    rw [Ret_code q2_eq]; simp only [p5, hdc, tlc, unb, q1, q2, l81_1]
    cases wb with
    | false =>
      simp only [n81, r81, g0, g1, g2, g3, g4, g10, g11, g12, g13, g14, SB, Nat.reduceLT, callee, aOp, ne_eq, Nat.reduceEqDiff, aBin, aUn, if_true, if_false, reduceCtorEq, frame0, place, notTuple, Nat.reduceAdd, Nat.reduceLeDiff, resVal, dite_true, dite_false, Int.reduceEq, Int.reduceLT, Int.reduceLE]
      exact h3' _ hd hBl (by simp only [g0, FB, Nat.reduceEqDiff]) (by simp only [g1, FB, Nat.reduceEqDiff]) (by simp only [g2, FB, Nat.reduceEqDiff]) (by simp only [g3, FB, Nat.reduceEqDiff]) (by simp only [g4, FB, Nat.reduceEqDiff]) (by simp only [g10, FB, Nat.reduceEqDiff]) (by simp only [g11, FB, Nat.reduceEqDiff]) (by simp only [g12, FB, Nat.reduceEqDiff]) (by simp only [g13, FB, Nat.reduceEqDiff])
    | true =>
      cases wp with
      | false =>
        simp only [n81, r81, g0, g1, g2, g3, g4, g10, g11, g12, g13, g14, SB, Nat.reduceLT, callee, aOp, ne_eq, Nat.reduceEqDiff, aBin, aUn, if_true, if_false, reduceCtorEq, frame0, place, notTuple, Nat.reduceAdd, Nat.reduceLeDiff, resVal, dite_true, dite_false, Int.reduceEq, Int.reduceLT, Int.reduceLE]
        exact h3' _ hd hBl (by simp only [g0, FB, Nat.reduceEqDiff]) (by simp only [g1, FB, Nat.reduceEqDiff]) (by simp only [g2, FB, Nat.reduceEqDiff]) (by simp only [g3, FB, Nat.reduceEqDiff]) (by simp only [g4, FB, Nat.reduceEqDiff]) (by simp only [g10, FB, Nat.reduceEqDiff]) (by simp only [g11, FB, Nat.reduceEqDiff]) (by simp only [g12, FB, Nat.reduceEqDiff]) (by simp only [g13, FB, Nat.reduceEqDiff])
      | true =>
        have c2 : ¬ (h : Int) = 1 := fun q => c1 ⟨rfl, rfl, by omega⟩
        simp only [n81, r81, g0, g1, g2, g3, g4, g10, g11, g12, g13, g14, c2, SB, Nat.reduceLT, callee, aOp, ne_eq, Nat.reduceEqDiff, aBin, aUn, if_true, if_false, reduceCtorEq, frame0, place, notTuple, Nat.reduceAdd, Nat.reduceLeDiff, resVal, dite_true, dite_false, Int.reduceEq, Int.reduceLT, Int.reduceLE]
        exact h3' _ hd hBl (by simp only [g0, FB, Nat.reduceEqDiff]) (by simp only [g1, FB, Nat.reduceEqDiff]) (by simp only [g2, FB, Nat.reduceEqDiff]) (by simp only [g3, FB, Nat.reduceEqDiff]) (by simp only [g4, FB, Nat.reduceEqDiff]) (by simp only [g10, FB, Nat.reduceEqDiff]) (by simp only [g11, FB, Nat.reduceEqDiff]) (by simp only [g12, FB, Nat.reduceEqDiff]) (by simp only [g13, FB, Nat.reduceEqDiff])
theorem pdq1 [OB] {G X : Heap} {B lim cap n : Nat} {p : Option Addr} {c : Go.Scan.Mk → Go.Scan.Mk → Int} {cl : FuncId} {cs : List Value} (hp : p = some ⟨B, 0, none⟩) (hB : B < G.length) (hl : lim ≤ B) (hn2 : n < 2 ^ 61) (hc : ∀ (mp : Bool) (lim : Nat) (x y : Go.Scan.Mk) (H : Heap) (Q : Value → Heap → Prop), CallR E mp lim cl (.agg (encK x).toArray :: .agg (encK y).toArray :: cs) H Q = Q (.int .i64 (c x y)) H) (hS : SWO (ltC c)) {d : Array Go.Scan.Mk} {a b lm m : Nat} {wb wp : Bool} {fr : Nat → Value} {L : List AItem} (hT : ∀ (a b lm : Nat) (wb wp : Bool) (d : Array Go.Scan.Mk) (X : Heap) (fr : Nat → Value), b - a < m → a ≤ b → b ≤ n → d.size = n → Below (ltC c) a b d → lm < 2 ^ 60 → fr 0 = .slice p n cap → fr 1 = .int .i64 (a : Int) → fr 2 = .int .i64 (b : Int) → fr 3 = .int .i64 (lm : Int) → fr 4 = .func (.func cl) #[] cs.toArray → fr 10 = .bool wb → fr 11 = .bool wp → Ret E a81 lim L fr (DH encK G B d ++ X) (Done G B n c a b d X)) (hC : ∀ (a b lm : Nat) (d : Array Go.Scan.Mk) (X : Heap), b - a < m → a ≤ b → b ≤ n → d.size = n → Below (ltC c) a b d → lm < 2 ^ 60 → ∃ d' Y, d'.size = n ∧ PermIn a b d d' ∧ SortedIn (ltC c) a b d' ∧ ∀ Q, CallR E false lim 81 [.slice p n cap, .int .i64 (a : Int), .int .i64 (b : Int), .int .i64 (lm : Int), .func (.func cl) #[] cs.toArray] (DH encK G B d ++ X) Q = Q (.tuple #[]) (DH encK G B d' ++ (X ++ Y))) (hm : b - a ≤ m) (hd : d.size = n) (hb : b ≤ n) (hab : a + 12 < b) (hlm : lm < 2 ^ 60) (hBl : Below (ltC c) a b d) (g0 : fr 0 = .slice p n cap) (g1 : fr 1 = .int .i64 (a : Int)) (g2 : fr 2 = .int .i64 (b : Int)) (g3 : fr 3 = .int .i64 (lm : Int)) (g4 : fr 4 = .func (.func cl) #[] cs.toArray) (g10 : fr 10 = .bool wb) (g11 : fr 11 = .bool wp) (g12 : fr 12 = .int .i64 ((b - a : Nat) : Int)) :
    Ret E a81 lim (.code q1 :: .inBlock 1 :: L) fr (DH encK G B d ++ X) (Done G B n c a b d X) := by
  obtain ⟨v, h, s, v1, v2, hh, hcho⟩ := cho_ok (X := X) (cap := cap) (lim := lim) hp hB hl hn2 hc hd hb hab
  by_cases c1 : h = 2
  · subst c1
    have hr := fun Q => rev_ok (X := X ++ [.cells false [.int .i64 (s : Int)]]) (cap := cap) (a := a) (b := b) (Q := Q) hp hB hl hn2 hc hd hb (by omega)
    have P2 := reverseRange_holds d a b (by omega) (by omega)
    generalize reverseRange d a b = d2 at hr P2
    have hd2 : d2.size = n := by rw [P2.1]; exact hd
    have hB2 := hBl.perm (by omega) P2
    have h2 := fun fr => pdq2 (X := X ++ [.cells false [.int .i64 (s : Int)]]) (d := d2) (fr := fr) (a := a) (b := b) (v := b - 1 - (v - a)) (h := 1) (lm := lm) (wb := wb) (wp := wp) hp hB hl hn2 hc hS hT hC hm hd2 hb (by omega) hlm (by omega) hB2
    have hw1 : IntKind.i64.wrap ((b : Int) - 1) = ((b - 1 : Nat) : Int) := wrap_int (by omega) (by omega)
    have hw2 : IntKind.i64.wrap ((v : Int) - (a : Int)) = ((v - a : Nat) : Int) := wrap_int (by omega) (by omega)
    have hw3 : IntKind.i64.wrap (((b - 1 : Nat) : Int) - ((v - a : Nat) : Int)) = ((b - 1 - (v - a) : Nat) : Int) := wrap_int (by omega) (by omega)
    have hcho' : ∀ Q, CallR E false lim 90 [.slice p n cap, .int .i64 (a : Int), .int .i64 (b : Int), .func (.func cl) #[] cs.toArray] (DH encK G B d ++ X) Q = Q (.tuple #[.int .i64 (v : Int), .int .i64 2]) (DH encK G B d ++ (X ++ [.cells false [.int .i64 (s : Int)]])) := hcho
    rw [Ret_code q1_eq]; simp only [p6, p7, hdc, tlc, unb, q1, l81_1]
    simp only [n81, r81, g0, g1, g2, g3, g4, g10, g11, g12, hcho', hr, hw1, hw2, hw3, SB, Nat.reduceLT, callee, aOp, ne_eq, Nat.reduceEqDiff, aBin, aUn, if_true, if_false, reduceCtorEq, frame0, place, notTuple, Nat.reduceAdd, Nat.reduceLeDiff, resVal, dite_true, dite_false, Int.reduceEq, Int.reduceLT, Int.reduceLE]
    refine Ret.mono (h2 _ (by simp only [g0, FB, Nat.reduceEqDiff]) (by simp only [g1, FB, Nat.reduceEqDiff]) (by simp only [g2, FB, Nat.reduceEqDiff]) (by simp only [g3, FB, Nat.reduceEqDiff]) (by simp only [g4, FB, Nat.reduceEqDiff]) (by simp only [g10, FB, Nat.reduceEqDiff]) (by simp only [g11, FB, Nat.reduceEqDiff]) (by simp only [g12, FB, Nat.reduceEqDiff]) (by simp only [FB, Nat.reduceEqDiff]) (by simp only [upd_same, upd_ne, ne_eq, Nat.reduceEqDiff, not_false_eq_true]; rfl)) fun v' H' hq => ?_
    exact Done.perm hq P2
  · have c2 : ¬ (h : Int) = 2 := by omega
    have h2 := fun fr => pdq2 (X := X ++ [.cells false [.int .i64 (s : Int)]]) (d := d) (fr := fr) (a := a) (b := b) (v := v) (h := h) (lm := lm) (wb := wb) (wp := wp) hp hB hl hn2 hc hS hT hC hm hd hb (by omega) hlm (by omega) hBl
    rw [Ret_code q1_eq]; simp only [p6, p7, hdc, tlc, unb, q1, l81_1]
    simp only [n81, r81, g0, g1, g2, g3, g4, g10, g11, g12, hcho, c2, SB, Nat.reduceLT, callee, aOp, ne_eq, Nat.reduceEqDiff, aBin, aUn, if_true, if_false, reduceCtorEq, frame0, place, notTuple, Nat.reduceAdd, Nat.reduceLeDiff, resVal, dite_true, dite_false, Int.reduceEq, Int.reduceLT, Int.reduceLE]
    refine Ret.mono (h2 _ (by simp only [g0, FB, Nat.reduceEqDiff]) (by simp only [g1, FB, Nat.reduceEqDiff]) (by simp only [g2, FB, Nat.reduceEqDiff]) (by simp only [g3, FB, Nat.reduceEqDiff]) (by simp only [g4, FB, Nat.reduceEqDiff]) (by simp only [g10, FB, Nat.reduceEqDiff]) (by simp only [g11, FB, Nat.reduceEqDiff]) (by simp only [g12, FB, Nat.reduceEqDiff]) (by simp only [FB, Nat.reduceEqDiff]) (by simp only [FB, Nat.reduceEqDiff])) fun v' H' hq => ?_
    exact Done.perm hq (permIn_refl _ _ _)
theorem pdq_loop [OB] {G X : Heap} {B lim cap n : Nat} {p : Option Addr} {c : Go.Scan.Mk → Go.Scan.Mk → Int} {cl : FuncId} {cs : List Value} (hp : p = some ⟨B, 0, none⟩) (hB : B < G.length) (hl : lim ≤ B) (hn2 : n < 2 ^ 61) (hc : ∀ (mp : Bool) (lim : Nat) (x y : Go.Scan.Mk) (H : Heap) (Q : Value → Heap → Prop), CallR E mp lim cl (.agg (encK x).toArray :: .agg (encK y).toArray :: cs) H Q = Q (.int .i64 (c x y)) H) (hS : SWO (ltC c)) (hn3 : n < 65536) : ∀ (m a b lm : Nat) (wb wp : Bool) (d : Array Go.Scan.Mk) (X : Heap) (fr : Nat → Value), b - a < m → a ≤ b → b ≤ n → d.size = n → Below (ltC c) a b d → lm < 2 ^ 60 → fr 0 = .slice p n cap → fr 1 = .int .i64 (a : Int) → fr 2 = .int .i64 (b : Int) → fr 3 = .int .i64 (lm : Int) → fr 4 = .func (.func cl) #[] cs.toArray → fr 10 = .bool wb → fr 11 = .bool wp →
    Ret E a81 lim (.inLoop l81_1 :: .inBlock 0 :: []) fr (DH encK G B d ++ X) (Done G B n c a b d X) := by
  intro m
  induction m with
  | zero => intro a b lm wb wp d X fr h; omega
  | succ m ih =>
    intro a b lm wb wp d X fr hlt hab hb hd hBl hlm g0 g1 g2 g3 g4 g10 g11
    have hC : ∀ (a b lm : Nat) (d : Array Go.Scan.Mk) (X : Heap), b - a < m → a ≤ b → b ≤ n → d.size = n → Below (ltC c) a b d → lm < 2 ^ 60 → ∃ d' Y, d'.size = n ∧ PermIn a b d d' ∧ SortedIn (ltC c) a b d' ∧ ∀ Q, CallR E false lim 81 [.slice p n cap, .int .i64 (a : Int), .int .i64 (b : Int), .int .i64 (lm : Int), .func (.func cl) #[] cs.toArray] (DH encK G B d ++ X) Q = Q (.tuple #[]) (DH encK G B d' ++ (X ++ Y)) := by
      intro a b lm d X k1 k2 k3 k4 k5 k6
      have key : CallR E false lim 81 [.slice p n cap, .int .i64 (a : Int), .int .i64 (b : Int), .int .i64 (lm : Int), .func (.func cl) #[] cs.toArray] (DH encK G B d ++ X) (Done G B n c a b d X) := by
        rw [CallR_run (E := E) (g := 81) (af := a81) (by simp [E, orc]) e81 rfl rfl]
        rw [b81, c81]
        simp only [n81, r81, SB, Nat.reduceLT, callee, aOp, ne_eq, Nat.reduceEqDiff, aBin, aUn, if_true, if_false, reduceCtorEq, frame0, place, notTuple, Nat.reduceAdd, Nat.reduceLeDiff, resVal, dite_true, dite_false, Int.reduceEq, Int.reduceLT, Int.reduceLE]
        rw [Ret_loop, ← Ret_inLoop]
        exact ih a b lm true true d X _ k1 k2 k3 k4 k5 k6 (by simp only [FB, Nat.reduceEqDiff]) (by simp only [FB, Nat.reduceEqDiff]) (by simp only [FB, Nat.reduceEqDiff]) (by simp only [FB, Nat.reduceEqDiff]) (by simp only [FB, Nat.reduceEqDiff]) (by simp only [FB, Nat.reduceEqDiff]) (by simp only [FB, Nat.reduceEqDiff])
      obtain ⟨k, v, H', hx, d', Y, h1, h2, h3, rfl, rfl⟩ := CallR.one key
      exact ⟨d', Y, h1, h2, h3, fun Q => CallR.det hx⟩
    have h1 := fun d X fr lm hd hBl hab hlm => pdq1 (X := X) (d := d) (fr := fr) (a := a) (b := b) (lm := lm) (wb := wb) (wp := wp) (m := m) (L := .inLoop l81_1 :: .inBlock 0 :: []) hp hB hl hn2 hc hS ih hC (by omega) hd hb hab hlm hBl
    rw [Ret_inLoop]
    generalize (AItem.inLoop l81_1 :: [AItem.inBlock 0]) = L at h1
    rw [Ret_code body_eq]; simp only [p1, p2, p3, p4, hdc, tlc, unb, l81_1]
    have hw1 : IntKind.i64.wrap ((b : Int) - (a : Int)) = ((b - a : Nat) : Int) := wrap_int (by omega) (by omega)
    by_cases c1 : b - a ≤ 12
    · have c1' : ((b - a : Nat) : Int) ≤ 12 := by omega
      have hi := fun Q => ins_ok (X := X) (cap := cap) (a := a) (b := b) (Q := Q) hp hB hl hn2 hc hd hb hab
      obtain ⟨P, S⟩ := insertionSort_holds hS d a b hab (by omega)
      simp only [n81, r81, g0, g1, g2, g3, g4, g10, g11, hw1, c1', hi, SB, Nat.reduceLT, callee, aOp, ne_eq, Nat.reduceEqDiff, aBin, aUn, if_true, if_false, reduceCtorEq, frame0, place, notTuple, Nat.reduceAdd, Nat.reduceLeDiff, resVal, dite_true, dite_false, Int.reduceEq, Int.reduceLT, Int.reduceLE]
      exact ⟨_, [], by rw [P.1]; exact hd, P, S, rfl, by simp⟩
    have c1' : ¬ ((b - a : Nat) : Int) ≤ 12 := by omega
    by_cases c2 : lm = 0
    · have c2' : (lm : Int) = 0 := by omega
      have hi := fun Q => heap_ok (X := X) (cap := cap) (a := a) (b := b) (Q := Q) hp hB hl hn2 hc hd hb hab
      obtain ⟨P, S⟩ := heapSort_holds hS d a b hab (by omega)
      simp only [n81, r81, g0, g1, g2, g3, g4, g10, g11, hw1, c1', c2', hi, SB, Nat.reduceLT, callee, aOp, ne_eq, Nat.reduceEqDiff, aBin, aUn, if_true, if_false, reduceCtorEq, frame0, place, notTuple, Nat.reduceAdd, Nat.reduceLeDiff, resVal, dite_true, dite_false, Int.reduceEq, Int.reduceLT, Int.reduceLE]
      exact ⟨_, [], by rw [P.1]; exact hd, P, S, rfl, by simp⟩
    have c2' : ¬ (lm : Int) = 0 := by omega
    cases wb with
    | true =>
      simp only [n81, r81, g0, g1, g2, g3, g4, g10, g11, hw1, c1', c2', SB, Nat.reduceLT, callee, aOp, ne_eq, Nat.reduceEqDiff, aBin, aUn, if_true, if_false, reduceCtorEq, frame0, place, notTuple, Nat.reduceAdd, Nat.reduceLeDiff, resVal, dite_true, dite_false, Int.reduceEq, Int.reduceLT, Int.reduceLE]
      exact h1 d X _ lm hd hBl (by omega) hlm (by simp only [g0, FB, Nat.reduceEqDiff]) (by simp only [g1, FB, Nat.reduceEqDiff]) (by simp only [g2, FB, Nat.reduceEqDiff]) (by simp only [g3, FB, Nat.reduceEqDiff]) (by simp only [g4, FB, Nat.reduceEqDiff]) (by simp only [g10, FB, Nat.reduceEqDiff]) (by simp only [g11, FB, Nat.reduceEqDiff]) (by simp only [FB, Nat.reduceEqDiff])
    | false =>
      obtain ⟨d1, s, hd1, P1, hbr⟩ := brk_ok (X := X) (cap := cap) (lim := lim) hp hB hl hn2 hc hd hb (show a + 12 < b by omega) hn3
      have hw2 : IntKind.i64.wrap ((lm : Int) - 1) = ((lm - 1 : Nat) : Int) := wrap_int (by omega) (by omega)
      simp only [n81, r81, g0, g1, g2, g3, g4, g10, g11, hw1, c1', c2', hbr, hw2, SB, Nat.reduceLT, callee, aOp, ne_eq, Nat.reduceEqDiff, aBin, aUn, if_true, if_false, reduceCtorEq, frame0, place, notTuple, Nat.reduceAdd, Nat.reduceLeDiff, resVal, dite_true, dite_false, Int.reduceEq, Int.reduceLT, Int.reduceLE]
      refine Ret.mono (h1 d1 (X ++ [.cells false [.int .u64 s]]) _ (lm - 1) hd1 (hBl.perm (by omega) P1) (by omega) (by omega) (by simp only [g0, FB, Nat.reduceEqDiff]) (by simp only [g1, FB, Nat.reduceEqDiff]) (by simp only [g2, FB, Nat.reduceEqDiff]) (by simp only [FB, Nat.reduceEqDiff]) (by simp only [g4, FB, Nat.reduceEqDiff]) (by simp only [g10, FB, Nat.reduceEqDiff]) (by simp only [g11, FB, Nat.reduceEqDiff]) (by simp only [FB, Nat.reduceEqDiff])) fun v' H' hq => ?_
      exact Done.perm hq P1
theorem len0_ok [OB] {mp : Bool} {lim : Nat} {H : Heap} {Q : Value → Heap → Prop} : CallR E mp lim 60 [.int .u64 0] H Q = Q (.int .i64 0) H := by
  have key : ∀ (mp : Bool) (lim : Nat) (H : Heap) (Q : Value → Heap → Prop), CallR E mp lim 78 [.int .u64 0] H Q = Q (.int .i64 0) H := by
    intro mp lim H Q
    refine pc (by decide) e78 rfl rfl ?_
    rw [b78, c78]
    have w2 : IntKind.u8.wrap 0 = 0 := by decide
    have w3 : IntKind.i64.wrap 0 = 0 := by decide
    simp only [n78, r78, w2, w3, Int.toNat_zero, List.getElem?_cons_zero, Option.map_some, UInt8.toNat_zero, UInt8.toNat_ofNat, Nat.reduceMod, Nat.reducePow, Int.cast_ofNat_Int, Int.add_zero, SB, Nat.reduceLT, callee, aOp, ne_eq, Nat.reduceEqDiff, aBin, aUn, if_true, if_false, reduceCtorEq, frame0, place, notTuple, Nat.reduceAdd, Nat.reduceLeDiff, resVal, dite_true, dite_false, Int.reduceEq, Int.reduceLT, Int.reduceLE]
  refine pc (by decide) e60 rfl rfl ?_
  rw [b60, c60]
  simp only [n60, r60, key, SB, Nat.reduceLT, callee, aOp, ne_eq, Nat.reduceEqDiff, aBin, aUn, if_true, if_false, reduceCtorEq, frame0, place, notTuple, Nat.reduceAdd, Nat.reduceLeDiff, resVal, dite_true, dite_false, Int.reduceEq, Int.reduceLT, Int.reduceLE]
theorem pdq_call [OB] {G X : Heap} {B lim cap n : Nat} {p : Option Addr} {c : Go.Scan.Mk → Go.Scan.Mk → Int} {cl : FuncId} {cs : List Value} (hp : p = some ⟨B, 0, none⟩) (hB : B < G.length) (hl : lim ≤ B) (hn2 : n < 2 ^ 61) (hc : ∀ (mp : Bool) (lim : Nat) (x y : Go.Scan.Mk) (H : Heap) (Q : Value → Heap → Prop), CallR E mp lim cl (.agg (encK x).toArray :: .agg (encK y).toArray :: cs) H Q = Q (.int .i64 (c x y)) H) (hS : SWO (ltC c)) (hn3 : n < 65536) {d : Array Go.Scan.Mk} {lm : Nat} (hd : d.size = n) (hlm : lm < 2 ^ 60) :
    ∃ d' Y, d'.size = n ∧ PermIn 0 n d d' ∧ SortedIn (ltC c) 0 n d' ∧ ∀ Q, CallR E false lim 81 [.slice p n cap, .int .i64 0, .int .i64 (n : Int), .int .i64 (lm : Int), .func (.func cl) #[] cs.toArray] (DH encK G B d ++ X) Q = Q (.tuple #[]) (DH encK G B d' ++ (X ++ Y)) := by
  have hBl : Below (ltC c) 0 n d := by simp [Below]
  have key : CallR E false lim 81 [.slice p n cap, .int .i64 0, .int .i64 (n : Int), .int .i64 (lm : Int), .func (.func cl) #[] cs.toArray] (DH encK G B d ++ X) (Done G B n c 0 n d X) := by
    rw [CallR_run (E := E) (g := 81) (af := a81) (by simp [E, orc]) e81 rfl rfl]
    rw [b81, c81]
    simp only [n81, r81, SB, Nat.reduceLT, callee, aOp, ne_eq, Nat.reduceEqDiff, aBin, aUn, if_true, if_false, reduceCtorEq, frame0, place, notTuple, Nat.reduceAdd, Nat.reduceLeDiff, resVal, dite_true, dite_false, Int.reduceEq, Int.reduceLT, Int.reduceLE]
    rw [Ret_loop, ← Ret_inLoop]
    exact pdq_loop (X := X) (cap := cap) hp hB hl hn2 hc hS hn3 (n + 1) 0 n lm true true d X _ (by omega) (by omega) (by omega) hd hBl hlm (by simp only [FB, Nat.reduceEqDiff]) (by simp only [Int.cast_ofNat_Int, FB, Nat.reduceEqDiff]) (by simp only [FB, Nat.reduceEqDiff]) (by simp only [FB, Nat.reduceEqDiff]) (by simp only [FB, Nat.reduceEqDiff]) (by simp only [FB, Nat.reduceEqDiff]) (by simp only [FB, Nat.reduceEqDiff])
  obtain ⟨k, v, H', hx, d', Y, h1, h2, h3, rfl, rfl⟩ := CallR.one key
  exact ⟨d', Y, h1, h2, h3, fun Q => CallR.det hx⟩
theorem sort_ok [OB] {G X : Heap} {B lim cap n : Nat} {p : Option Addr} {c : Go.Scan.Mk → Go.Scan.Mk → Int} {cl : FuncId} {cs : List Value} (hp : p = some ⟨B, 0, none⟩) (hB : B < G.length) (hl : lim ≤ B) (hn2 : n < 2 ^ 61) (hc : ∀ (mp : Bool) (lim : Nat) (x y : Go.Scan.Mk) (H : Heap) (Q : Value → Heap → Prop), CallR E mp lim cl (.agg (encK x).toArray :: .agg (encK y).toArray :: cs) H Q = Q (.int .i64 (c x y)) H) (hS : SWO (ltC c)) (hn3 : n < 65536) {d : Array Go.Scan.Mk} (hd : d.size = n) :
    ∃ d' Y, d'.size = n ∧ PermIn 0 n d d' ∧ SortedIn (ltC c) 0 n d' ∧ ∀ Q, CallR E false lim 63 [.slice p n cap, .func (.func cl) #[] cs.toArray] (DH encK G B d ++ X) Q = Q (.tuple #[]) (DH encK G B d' ++ (X ++ Y)) := by
  have key : CallR E false lim 63 [.slice p n cap, .func (.func cl) #[] cs.toArray] (DH encK G B d ++ X) (Done G B n c 0 n d X) := by
    rw [CallR_run (E := E) (g := 63) (af := a63) (by simp [E, orc]) e63 rfl rfl]
    rw [b63, c63]
    have w1 : IntKind.u64.wrap (n : Int) = (n : Int) := by rw [wrap64]; omega
    by_cases h0 : n = 0
    · subst h0
      obtain ⟨d', Y, k1, k2, k3, k4⟩ := pdq_call (X := X) (lm := 0) (cap := cap) hp hB hl hn2 hc hS hn3 hd (by omega)
      have k4' : ∀ Q, CallR E false lim 81 [.slice p 0 cap, .int .i64 0, .int .i64 0, .int .i64 0, .func (.func cl) #[] cs.toArray] (DH encK G B d ++ X) Q = Q (.tuple #[]) (DH encK G B d' ++ (X ++ Y)) := k4
      have w0 : IntKind.u64.wrap 0 = 0 := by decide
      simp only [n63, r63, w0, len0_ok, k4', SB, Nat.reduceLT, callee, aOp, ne_eq, Nat.reduceEqDiff, aBin, aUn, if_true, if_false, reduceCtorEq, frame0, place, notTuple, Nat.reduceAdd, Nat.reduceLeDiff, resVal, dite_true, dite_false, Int.reduceEq, Int.reduceLT, Int.reduceLE]
      exact ⟨_, _, k1, k2, k3, rfl, rfl⟩
    · obtain ⟨L, l1, l2, l3, l4⟩ := len_ok (x := n) hn3 (by omega)
      obtain ⟨d', Y, k1, k2, k3, k4⟩ := pdq_call (X := X) (lm := L) (cap := cap) hp hB hl hn2 hc hS hn3 hd (by omega)
      simp only [n63, r63, w1, l4, k4, SB, Nat.reduceLT, callee, aOp, ne_eq, Nat.reduceEqDiff, aBin, aUn, if_true, if_false, reduceCtorEq, frame0, place, notTuple, Nat.reduceAdd, Nat.reduceLeDiff, resVal, dite_true, dite_false, Int.reduceEq, Int.reduceLT, Int.reduceLE]
      exact ⟨_, _, k1, k2, k3, rfl, rfl⟩
  obtain ⟨k, v, H', hx, d', Y, h1, h2, h3, rfl, rfl⟩ := CallR.one key
  exact ⟨d', Y, h1, h2, h3, fun Q => CallR.det hx⟩
theorem sort_nil [OB] {lim cap : Nat} {p : Option Addr} {cl : FuncId} {cs : List Value} {H : Heap} {Q : Value → Heap → Prop} : CallR E false lim 63 [.slice p 0 cap, .func (.func cl) #[] cs.toArray] H Q = Q (.tuple #[]) H := by
  have hi : ∀ Q, CallR E false lim 87 [.slice p 0 cap, .int .i64 0, .int .i64 0, .func (.func cl) #[] cs.toArray] H Q = Q (.tuple #[]) H := by
    intro Q
    refine runs (by decide) e87 rfl ?_
    rw [b87, c87]
    have w1 : IntKind.i64.wrap 1 = 1 := by decide
    simp only [n87, r87, w1, Int.zero_add, Int.reduceLT, decide_false, SB, Nat.reduceLT, callee, aOp, ne_eq, Nat.reduceEqDiff, aBin, aUn, if_true, if_false, reduceCtorEq, frame0, place, notTuple, Nat.reduceAdd, Nat.reduceLeDiff, resVal, dite_true, dite_false, Int.reduceEq, Int.reduceLT, Int.reduceLE]
    rw [Ret_loop, Ret_code l87_2.eq_1]
    simp only [n87, r87, SB, Nat.reduceLT, callee, aOp, ne_eq, Nat.reduceEqDiff, aBin, aUn, if_true, if_false, reduceCtorEq, frame0, place, notTuple, Nat.reduceAdd, Nat.reduceLeDiff, resVal, dite_true, dite_false, Int.reduceEq, Int.reduceLT, Int.reduceLE]
  have hq : ∀ Q, CallR E false lim 81 [.slice p 0 cap, .int .i64 0, .int .i64 0, .int .i64 0, .func (.func cl) #[] cs.toArray] H Q = Q (.tuple #[]) H := by
    intro Q
    refine runs (by decide) e81 rfl ?_
    rw [b81, c81]
    simp only [n81, r81, SB, Nat.reduceLT, callee, aOp, ne_eq, Nat.reduceEqDiff, aBin, aUn, if_true, if_false, reduceCtorEq, frame0, place, notTuple, Nat.reduceAdd, Nat.reduceLeDiff, resVal, dite_true, dite_false, Int.reduceEq, Int.reduceLT, Int.reduceLE]
    rw [Ret_loop, Ret_code body_eq]
    simp only [p1, p2, hdc, tlc, unb, l81_1]
    have w1 : IntKind.i64.wrap 0 = 0 := by decide
    simp only [n81, r81, w1, hi, Int.sub_self, SB, Nat.reduceLT, callee, aOp, ne_eq, Nat.reduceEqDiff, aBin, aUn, if_true, if_false, reduceCtorEq, frame0, place, notTuple, Nat.reduceAdd, Nat.reduceLeDiff, resVal, dite_true, dite_false, Int.reduceEq, Int.reduceLT, Int.reduceLE]
  refine runs (by decide) e63 rfl ?_
  rw [b63, c63]
  have w0 : IntKind.u64.wrap 0 = 0 := by decide
  simp only [n63, r63, w0, len0_ok, hq, SB, Nat.reduceLT, callee, aOp, ne_eq, Nat.reduceEqDiff, aBin, aUn, if_true, if_false, reduceCtorEq, frame0, place, notTuple, Nat.reduceAdd, Nat.reduceLeDiff, resVal, dite_true, dite_false, Int.reduceEq, Int.reduceLT, Int.reduceLE]
end Go.Proofs.Ytkppjkkkdpcgiaa.Fn.SM

namespace Go.Proofs.Ytkppjkkkdpcgiaa.Fn
open Go.AM Go.AM.Sym Go.Scan Go.Sort
set_option maxRecDepth 100000
set_option linter.unusedVariables false
set_option linter.unusedSimpArgs false
set_option maxHeartbeats 4000000
theorem swo_lex {α : Type} {k : α → List Int} {n : Nat} (hn : ∀ x, (k x).length = n) : SWO (fun x y : α => decide (lexC (k x) (k y) < 0)) := by
  have eqL : ∀ x y : α, (k x).length = (k y).length := fun x y => by rw [hn, hn]
  refine ⟨fun x => ?_, fun x y z h1 h2 => ?_, fun x y z h1 h2 => ?_⟩
  · rw [lexC_self]; rfl
  · simp only [decide_eq_true_eq] at *
    have h3 := lexC_trans (k x) (k y) (k z) (eqL x y) (eqL y z) (by omega) (by omega)
    rcases lexC_val (k x) (k z) with v | v | v
    · omega
    · have e := lexC_eq _ _ (eqL x z) v
      rw [← e, lexC_neg (k x) (k y)] at h2; omega
    · omega
  · simp only [decide_eq_false_iff_not] at *
    have a1 := lexC_neg (k x) (k y)
    have a2 := lexC_neg (k y) (k z)
    have a3 := lexC_neg (k x) (k z)
    have h3 := lexC_trans (k z) (k y) (k x) (eqL z y) (eqL y x) (by omega) (by omega)
    omega
theorem perm_list {α : Type} [Inhabited α] {n : Nat} {d d' : Array α} (hd : d.size = n) (h : PermIn 0 n d d') : d'.toList.Perm d.toList := by
  obtain ⟨h1, h2, h3⟩ := h
  subst hd
  rw [Array.extract_size] at h3
  rw [← h1, Array.extract_size] at h3
  exact h3
theorem sorted_list {α : Type} [Inhabited α] {k : α → List Int} {n : Nat} {d : Array α} (hd : d.size = n) (h : SortedIn (fun x y : α => decide (lexC (k x) (k y) < 0)) 0 n d) : Ordered k d.toList := by
  unfold Ordered
  rw [List.pairwise_iff_getElem]
  intro i j hi hj hij
  have h1 := h i j (Nat.zero_le _) hij (by simpa [hd] using hj)
  have e1 : d[i]! = d.toList[i] := by rw [getElem!_pos d i (by simpa using hi)]; simp
  have e2 : d[j]! = d.toList[j] := by rw [getElem!_pos d j (by simpa using hj)]; simp
  rw [e1, e2] at h1
  simp only [decide_eq_false_iff_not] at h1
  rw [lexC_neg (k d.toList[j]) (k d.toList[i])]; omega
theorem DH_same {α : Type} {enc : α → List Value} {G : Heap} {B : Nat} {l : List α} (hB : hget G B = .cells false (l.flatMap enc)) : DH enc G B l.toArray = G := by
  have hl := hget_alive hB
  unfold DH
  apply List.ext_getElem
  · simp
  intro i h1 h2
  rw [List.getElem_set]
  split
  · rename_i e; subst e
    unfold hget at hB
    rw [List.getD_eq_getElem?_getD, List.getElem?_eq_getElem hl] at hB
    exact hB.symm
  · rfl
theorem sortM_ok [OB] {lim R cap : Nat} {l : List Mk} {H : Heap} (hR : hget H R = .cells false (l.flatMap encK)) (hl : lim ≤ R) (hn : l.length < 65536) :
    ∃ H1, (∀ Q : Value → Heap → Prop, CallR Ef false lim 63 [.slice (some ⟨R, 0, none⟩) l.length cap, .func (.func 51) #[] #[]] (H ++ []) Q = Q (.tuple #[]) (H1 ++ [])) ∧ hget H1 R = .cells false ((sortB keysM l).flatMap encK) ∧ Chg [R] H H1 := by
  have hRl := hget_alive hR
  obtain ⟨d, Y, h1, h2, h3, h4⟩ := SM.sort_ok (X := []) (G := H) (B := R) (lim := lim) (cap := cap) (n := l.length) (p := some ⟨R, 0, none⟩) (c := fun a b => lexC (keysM a) (keysM b)) (cl := 51) (cs := []) rfl hRl hl (by omega) (fun mp lim x y H Q => compM_ok (mp := mp) (lim := lim) (H := H) (Q := Q)) (swo_lex keysM_len) (by omega) (d := l.toArray) (by simp)
  rw [DH_same hR] at h4
  have hp : d.toList.Perm l := perm_list (d := l.toArray) (n := l.length) (by simp) h2
  have hs : d.toList = sortB keysM l := sortB_uniq keysM_len keysM_inj (sorted_list h1 h3) hp
  refine ⟨DH encK H R d ++ Y, fun Q => CallR.eqF' ?_, ?_, ?_⟩
  · rw [h4]; exact ⟨rfl, by simp⟩
  · rw [DH_get hRl, hs]
  · refine ⟨by simp [DH], fun j hj hA => ?_⟩
    rw [hget_old (by rw [DH_len]; exact hj)]
    exact hget_set_ne (by simpa using hA)
theorem sortE_ok [OB] {lim R cap : Nat} {l : List Ev} {H : Heap} (hR : hget H R = .cells false (l.flatMap encE)) (hl : lim ≤ R) (hn : l.length < 65536) :
    ∃ H1, (∀ Q : Value → Heap → Prop, CallR Ef false lim 47 [.slice (some ⟨R, 0, none⟩) l.length cap, .func (.func 48) #[] #[]] (H ++ []) Q = Q (.tuple #[]) (H1 ++ [])) ∧ hget H1 R = .cells false ((sortB keysE l).flatMap encE) ∧ Chg [R] H H1 := by
  have hRl := hget_alive hR
  obtain ⟨d, Y, h1, h2, h3, h4⟩ := SE.sort_ok (X := []) (G := H) (B := R) (lim := lim) (cap := cap) (n := l.length) (p := some ⟨R, 0, none⟩) (c := fun a b => lexC (keysE a) (keysE b)) (cl := 48) (cs := []) rfl hRl hl (by omega) (fun mp lim x y H Q => compE_ok (mp := mp) (lim := lim) (H := H) (Q := Q)) (swo_lex keysE_len) (by omega) (d := l.toArray) (by simp)
  rw [DH_same hR] at h4
  have hp : d.toList.Perm l := perm_list (d := l.toArray) (n := l.length) (by simp) h2
  have hs : d.toList = sortB keysE l := sortB_uniq keysE_len keysE_inj (sorted_list h1 h3) hp
  refine ⟨DH encE H R d ++ Y, fun Q => CallR.eqF' ?_, ?_, ?_⟩
  · rw [h4]; exact ⟨rfl, by simp⟩
  · rw [DH_get hRl, hs]
  · refine ⟨by simp [DH], fun j hj hA => ?_⟩
    rw [hget_old (by rw [DH_len]; exact hj)]
    exact hget_set_ne (by simpa using hA)
theorem sortM_nil [OB] {lim cap : Nat} {p : Option Addr} {H : Heap} {Q : Value → Heap → Prop} : CallR Ef false lim 63 [.slice p 0 cap, .func (.func 51) #[] #[]] H Q = Q (.tuple #[]) H :=
  CallR.eqF (by rw [SM.sort_nil (cs := [])]; exact ⟨rfl, rfl⟩)
theorem sorted_ok [OB] {lim Bm R : Nat} {es : Ess} {H : Heap} {Q : Value → Heap → Prop} (hl : lim ≤ H.length) (h1 : hget H Bm = .cells false [.map (some R)]) (hm : hget H R = .map (encM kM vK es)) (hn : es.length < 65536)
    (hQ : ∀ G p cap, Own H.length G encK 3 p cap (sortB keysM (es.map (·.2))) → Chg [] H G → Q (.slice p es.length cap) (G ++ [])) :
    CallR Ef false lim 49 [.func (.func 64) #[] #[.pointer (some ⟨Bm, 0, none⟩)], .func (.func 51) #[] #[]] H Q := by
  have hcoll : ∀ (Q : Value → Heap → Prop), (∀ G p cap l, l.Perm (es.map (·.2)) → Own H.length G encK 3 p cap l → Chg [] H G → Q (.slice p l.length cap) (G ++ [])) →
      CallR Ef false lim 62 [.func (.func 64) #[] #[.pointer (some ⟨Bm, 0, none⟩)]] H Q := by
    intro Q hQ
    refine runsF (by decide) e62 rfl ?_
    rw [b62, c62]
    simp only [n62, r62, SB, Nat.reduceLT, callee, aOp, ne_eq, Nat.reduceEqDiff, aBin, aUn, if_true, if_false, reduceCtorEq, frame0, place, notTuple, Nat.reduceAdd, Nat.reduceLeDiff, resVal, dite_true, dite_false, Int.reduceEq, Int.reduceLT, Int.reduceLE]
    rw [List.append_nil]
    refine appseq_ok hl h1 hm (by omega) fun G p cap l h1 h2 h3 => ?_
    refine Ret_pad ?_
    simp only [n62, r62, SB, Nat.reduceLT, callee, aOp, ne_eq, Nat.reduceEqDiff, aBin, aUn, if_true, if_false, reduceCtorEq, frame0, place, notTuple, Nat.reduceAdd, Nat.reduceLeDiff, resVal, dite_true, dite_false, Int.reduceEq, Int.reduceLT, Int.reduceLE]
    exact hQ G p cap l h1 h2 h3
  refine runsF (by decide) e49 rfl ?_
  rw [b49, c49]
  simp only [n49, r49, SB, Nat.reduceLT, callee, aOp, ne_eq, Nat.reduceEqDiff, aBin, aUn, if_true, if_false, reduceCtorEq, frame0, place, notTuple, Nat.reduceAdd, Nat.reduceLeDiff, resVal, dite_true, dite_false, Int.reduceEq, Int.reduceLT, Int.reduceLE]
  rw [List.append_nil]
  refine hcoll _ fun G p cap l hp hO hC => ?_
  have hll : l.length = es.length := by have := hp.length_eq; simpa using this
  have hs : sortB keysM (es.map (·.2)) = sortB keysM l := (sortB_congr keysM_len keysM_inj hp).symm
  rw [hs] at hQ
  rcases hO with ⟨h0, rfl, rfl⟩ | ⟨R', rfl, rfl, hR, hRl⟩
  · subst h0
    have hsn := fun X (Q : Value → Heap → Prop) => sortM_nil (lim := lim) (cap := 0) (p := none) (H := G ++ X) (Q := Q)
    have := hQ G none 0 (.inl ⟨rfl, rfl, rfl⟩) hC
    rw [← hll] at this
    simp only [n49, r49, hsn, List.length_nil, SB, Nat.reduceLT, callee, aOp, ne_eq, Nat.reduceEqDiff, aBin, aUn, if_true, if_false, reduceCtorEq, frame0, place, notTuple, Nat.reduceAdd, Nat.reduceLeDiff, resVal, dite_true, dite_false, Int.reduceEq, Int.reduceLT, Int.reduceLE]
    exact this
  · obtain ⟨G1, g1, g2, g3⟩ := sortM_ok (lim := lim) (cap := loose 3) hR (by omega) (by omega)
    simp only [n49, r49, g1, SB, Nat.reduceLT, callee, aOp, ne_eq, Nat.reduceEqDiff, aBin, aUn, if_true, if_false, reduceCtorEq, frame0, place, notTuple, Nat.reduceAdd, Nat.reduceLeDiff, resVal, dite_true, dite_false, Int.reduceEq, Int.reduceLT, Int.reduceLE]
    rw [hll]
    exact hQ G1 _ _ (.inr ⟨R', rfl, rfl, g2, hRl⟩) ⟨by have := hC.len; have := g3.len; omega, fun j hj _ => by
      rw [g3.other j (by have := hC.len; omega) (by simp; omega), hC.other j hj (by simp)]⟩
end Go.Proofs.Ytkppjkkkdpcgiaa.Fn

namespace Go.Scan
open Go.AM Go.AM.Sym
set_option maxRecDepth 100000
set_option linter.unusedVariables false
set_option linter.unusedSimpArgs false
theorem cptGo_snoc (x : Mk) : ∀ (l : List Mk) (p : Mk), cptGo p (l ++ [x]) = cptGo p l ++ (if sameM x ((p :: l).getLast (by simp)) then [] else [x])
  | [], p => by
    by_cases h : sameM x p
    · simp [cptGo, h]
    · simp [cptGo, h]
  | m :: l, p => by
    rw [List.cons_append, cptGo, cptGo_snoc x l m, cptGo]
    have e : (p :: m :: l).getLast (by simp) = (m :: l).getLast (by simp) := List.getLast_cons (by simp)
    rw [e]
    split
    · rfl
    · rfl
theorem compact_take {l : List Mk} {m : Nat} (h0 : 1 ≤ m) (h1 : m < l.length) : compactN (l.take (m + 1)) = compactN (l.take m) ++ (if sameM (gt l m) (gt l (m - 1)) then [] else [gt l m]) := by
  cases l with
  | nil => simp at h1
  | cons p l =>
    obtain ⟨m, rfl⟩ : ∃ k, m = k + 1 := ⟨m - 1, by omega⟩
    have hm : m < l.length := by simpa using h1
    have e1 : (p :: l).take (m + 1 + 1) = p :: (l.take m ++ [l[m]]) := by
      rw [List.take_succ_cons, List.take_succ_eq_append_getElem hm]
    have e2 : (p :: l).take (m + 1) = p :: l.take m := List.take_succ_cons ..
    rw [e1, e2]
    show p :: cptGo p (l.take m ++ [l[m]]) = (p :: cptGo p (l.take m)) ++ _
    rw [cptGo_snoc, gt_cons_succ, gt_lt hm, Nat.add_sub_cancel, List.cons_append]
    have e3 : (p :: l.take m).getLast (by simp) = gt (p :: l) m := by
      rw [List.getLast_eq_getElem, gt_lt (by simp; omega)]
      simp only [List.length_cons, List.length_take, Nat.min_eq_left (Nat.le_of_lt hm), Nat.add_sub_cancel]
      cases m with
      | zero => rfl
      | succ k => simp
    rw [e3]
theorem compact_self {l : List Mk} : ∀ m, m ≤ l.length → (∀ j, 1 ≤ j → j < m → ¬ sameM (gt l j) (gt l (j - 1))) → compactN (l.take m) = l.take m
  | 0, _, _ => by rw [List.take_zero]; rfl
  | 1, h, _ => by
    cases l with
    | nil => simp at h
    | cons p l => rfl
  | m + 2, h, hs => by
    rw [compact_take (m := m + 1) (by omega) (by omega), compact_self (m + 1) (by omega) fun j h1 h2 => hs j h1 (by omega), if_neg (hs (m + 1) (by omega) (by omega)), List.take_succ_eq_append_getElem (i := m + 1) (by omega), gt_lt]
end Go.Scan

namespace Go.Proofs.Ytkppjkkkdpcgiaa.Fn
open Go.AM Go.AM.Sym Go.Scan Go.Sort
set_option maxRecDepth 100000
set_option linter.unusedVariables false
set_option linter.unusedSimpArgs false
set_option maxHeartbeats 4000000
theorem slice_from {R n lo : Nat} (h : lo ≤ n) (hn : n < 2 ^ 62) : sliceV 3 (.slice (some ⟨R, 0, none⟩) n (loose 3)) (some (.int .i64 (lo : Int))) none none = some (.slice (some ⟨R, lo * 3, none⟩) (n - lo) (loose 3)) := by
  have hb : bounds unV n n ((some (Value.int .i64 (lo : Int))).map .const) ((none : Option Value).map .const) none = some (lo, n, n) := by
    rw [bounds_V]
    exact (bv_100 (by omega) (by omega)).trans (by rw [Int.toNat_natCast])
  simp only [Option.map_some, Option.map_none] at hb
  simp only [sliceV, aSliceS, Option.map_some, Option.map_none, if_true, hb]
  rw [addr_add, Nat.zero_add]
theorem slice_to {R n hi : Nat} (h : hi ≤ n) (hn : n < 2 ^ 62) : sliceV 3 (.slice (some ⟨R, 0, none⟩) n (loose 3)) none (some (.int .i64 (hi : Int))) none = some (.slice (some ⟨R, 0, none⟩) hi (loose 3)) := by
  have hb : bounds unV n n ((none : Option Value).map .const) ((some (Value.int .i64 (hi : Int))).map .const) none = some (0, hi, n) := by
    rw [bounds_V]
    exact (bv_010 (by omega) (by omega)).trans (by rw [Int.toNat_natCast])
  simp only [Option.map_some, Option.map_none] at hb
  simp only [sliceV, aSliceS, Option.map_some, Option.map_none, if_true, hb]
  rw [addr_add, Nat.zero_mul, Nat.sub_zero]
theorem zeros_eq {m : Nat} : ((List.range (m * 3)).map fun j => [Value.int .i64 0, .int .i64 0, .int .i64 0].getD (j % 3) undef) = (List.replicate m zeroM).flatMap encK := by
  have e : (List.replicate m zeroM).flatMap encK = List.replicate (m * 3) (.int .i64 0) := by
    induction m with
    | zero => rfl
    | succ m ih =>
      rw [List.replicate_succ, List.flatMap_cons, ih, show (m + 1) * 3 = m * 3 + 1 + 1 + 1 by omega, List.replicate_succ, List.replicate_succ, List.replicate_succ]
      rfl
  rw [e, List.eq_replicate_iff]
  refine ⟨by simp, fun v hv => ?_⟩
  obtain ⟨j, _, rfl⟩ := List.mem_map.mp hv
  have : j % 3 < 3 := Nat.mod_lt _ (by decide)
  generalize j % 3 = k at this
  match k, this with
  | 0, _ => rfl
  | 1, _ => rfl
  | 2, _ => rfl
theorem clear_cells {d : List Mk} {k : Nat} (hk : k ≤ d.length) : setAll (d.flatMap encK) (k * 3) ((List.replicate (d.length - k) zeroM).flatMap encK) = (d.take k ++ List.replicate (d.length - k) zeroM).flatMap encK := by
  have h1 : (d.take k).flatMap encK ++ (d.drop k).flatMap encK ++ [] = d.flatMap encK := by rw [List.append_nil, ← List.flatMap_append, List.take_append_drop]
  have h2 : ((d.take k).flatMap encK).length = k * 3 := by rw [flat_len encK_len, List.length_take, Nat.min_eq_left hk]
  have h3 : ((List.replicate (d.length - k) zeroM).flatMap encK).length = ((d.drop k).flatMap encK).length := by rw [flat_len encK_len, flat_len encK_len]; simp
  rw [← h1, ← h2, setAll_mid _ _ _ _ h3, List.append_nil, List.flatMap_append]
theorem compact_ok [OB] {lim R : Nat} {l : List Mk} {H : Heap} {Q : Value → Heap → Prop} (hR : hget H R = .cells false (l.flatMap encK)) (hl : lim ≤ R) (hn : l.length < 65536)
    (hQ : ∀ G, Sl G encK 3 (some ⟨R, 0, none⟩) (compactN l) → Chg [R] H G → Q (.slice (some ⟨R, 0, none⟩) (compactN l).length (loose 3)) (G ++ [])) :
    CallR E false lim 54 [.slice (some ⟨R, 0, none⟩) l.length (loose 3), .func (.func 55) #[] #[]] H Q := by
  have hRl := hget_alive hR
  refine runs' (by decide) e54 rfl ?_
  rw [b54, c54]
  have done : compactN l = l → Q (.slice (some ⟨R, 0, none⟩) l.length (loose 3)) (H ++ []) := fun he => by
    have := hQ H (by rw [he]; exact Sl.row encK_len hR) (Chg.refl)
    rwa [he] at this
  by_cases h2 : l.length < 2
  · have hc : (l.length : Int) < 2 := by omega
    simp only [n54, r54, hc, SB, Nat.reduceLT, callee, aOp, ne_eq, Nat.reduceEqDiff, aBin, aUn, if_true, if_false, reduceCtorEq, frame0, place, notTuple, Nat.reduceAdd, Nat.reduceLeDiff, resVal, dite_true, dite_false, Int.reduceEq, Int.reduceLT, Int.reduceLE]
    refine done ?_
    match l, h2 with
    | [], _ => rfl
    | [_], _ => rfl
  have hc : ¬ (l.length : Int) < 2 := by omega
  simp only [n54, r54, hc, SB, Nat.reduceLT, callee, aOp, ne_eq, Nat.reduceEqDiff, aBin, aUn, if_true, if_false, reduceCtorEq, frame0, place, notTuple, Nat.reduceAdd, Nat.reduceLeDiff, resVal, dite_true, dite_false, Int.reduceEq, Int.reduceLT, Int.reduceLE]
  refine Ret_rounds (fun i => l.length - i) (fun i fr G => 1 ≤ i ∧ i ≤ l.length ∧ fr 0 = .slice (some ⟨R, 0, none⟩) l.length (loose 3) ∧ fr 1 = .func (.func 55) #[] #[] ∧ fr 5 = .int .i64 (i : Int) ∧ G = H ++ [] ∧ ∀ j, 1 ≤ j → j < i → ¬ sameM (gt l j) (gt l (j - 1))) 1
    ⟨Nat.le_refl _, by omega, (by simp only [FB, Nat.reduceEqDiff]), (by simp only [FB, Nat.reduceEqDiff]), by rfl, rfl, fun j h1 h2 => by omega⟩ ?_
  rintro i fr G ⟨i1, i2, g0, g1, g5, rfl, hne⟩ hN
  rw [Ret_code l54_2.eq_1]
  have hs0 : Sl H encK 3 (some ⟨R, 0, none⟩) l := Sl.row encK_len hR
  have hw1 : IntKind.i64.wrap ((i : Int) + 1) = ((i + 1 : Nat) : Int) := wrap_nat (by omega)
  have hw0 : IntKind.i64.wrap ((i : Int) - 1) = ((i - 1 : Nat) : Int) := wrap_pred (by omega) (by omega)
  by_cases hlt : i < l.length
  case neg =>
    obtain rfl : i = l.length := by omega
    simp only [n54, r54, g0, g1, g5, int_lt_cast, hlt, SB, Nat.reduceLT, callee, aOp, ne_eq, Nat.reduceEqDiff, aBin, aUn, if_true, if_false, reduceCtorEq, frame0, place, notTuple, Nat.reduceAdd, Nat.reduceLeDiff, resVal, dite_true, dite_false, Int.reduceEq, Int.reduceLT, Int.reduceLE]
    refine done ?_
    have := compact_self l.length (Nat.le_refl _) hne
    rwa [List.take_length] at this
  have hld : ∀ X j, j < l.length → AM.loadCells (H ++ X) (elt (some ⟨R, 0, none⟩) 3 j) 3 = some (encK (gt l j)) := fun X j hj => (hs0.app X).loadCells encK_len hj
  have hidx := fun c (k : IntKind) (H1 : Heap) => hs0.idx (c := c) (k := k) (H1 := H1) hlt
  have hidx0 := fun c (k : IntKind) (H1 : Heap) => hs0.idx (c := c) (k := k) (H1 := H1) (show i - 1 < l.length by omega)
  have ld1 := fun X => hld X i hlt
  have ld0 := fun X => hld X (i - 1) (by omega)
  by_cases hsame : sameM (gt l i) (gt l (i - 1))
  case neg =>
    simp only [n54, r54, g0, g1, g5, int_lt_cast, hlt, hidx, hidx0, ld1, ld0, hw0, hw1, sameM_ok, decide_eq_false hsame, SB, Nat.reduceLT, callee, aOp, ne_eq, Nat.reduceEqDiff, aBin, aUn, if_true, if_false, reduceCtorEq, frame0, place, notTuple, Nat.reduceAdd, Nat.reduceLeDiff, resVal, dite_true, dite_false, Int.reduceEq, Int.reduceLT, Int.reduceLE]
    refine hN (i + 1) _ _ ⟨by omega, by omega, (by simp only [g0, FB, Nat.reduceEqDiff]), (by simp only [g1, FB, Nat.reduceEqDiff]), (by simp only [FB, Nat.reduceEqDiff]), rfl, fun j h1 h2 => ?_⟩ (by omega)
    rcases (by omega : j < i ∨ j = i) with h | rfl
    · exact hne j h1 h
    · exact hsame
  have hsf := slice_from (R := R) (n := l.length) (lo := i) (by omega) (by omega)
  simp only [n54, r54, g0, g1, g5, int_lt_cast, hlt, hidx, hidx0, ld1, ld0, hw0, hw1, sameM_ok, decide_eq_true hsame, hsf, SB, Nat.reduceLT, callee, aOp, ne_eq, Nat.reduceEqDiff, aBin, aUn, if_true, if_false, reduceCtorEq, frame0, place, notTuple, Nat.reduceAdd, Nat.reduceLeDiff, resVal, dite_true, dite_false, Int.reduceEq, Int.reduceLT, Int.reduceLE]
  have ci : compactN (l.take (i + 1)) = l.take i := by
    rw [compact_take (m := i) i1 hlt, if_pos hsame, List.append_nil]
    exact compact_self i i2 hne
  refine Ret_rounds (S := Nat × Nat × List Mk) (fun s => l.length - i - s.1) (fun s fr G => 1 ≤ s.1 ∧ s.1 ≤ l.length - i ∧ s.2.1 + 1 ≤ i + s.1 ∧ s.2.2.length = l.length ∧ s.2.2.take s.2.1 = compactN (l.take (i + s.1)) ∧ (∀ j, s.2.1 ≤ j → j < l.length → gt s.2.2 j = gt l j) ∧
    fr 0 = .slice (some ⟨R, 0, none⟩) l.length (loose 3) ∧ fr 1 = .func (.func 55) #[] #[] ∧ fr 5 = .int .i64 (s.2.1 : Int) ∧ fr 6 = .slice (some ⟨R, i * 3, none⟩) (l.length - i) (loose 3) ∧ fr 7 = .int .i64 (s.1 : Int) ∧ G = DH encK H R s.2.2.toArray ++ []) (1, i, l)
    ⟨Nat.le_refl _, by simp only; omega, Nat.le_refl _, rfl, ci.symm, fun _ _ _ => rfl, (by simp only [g0, FB, Nat.reduceEqDiff]), (by simp only [g1, FB, Nat.reduceEqDiff]), (by simp only [g5, FB, Nat.reduceEqDiff]), (by simp only [FB, Nat.reduceEqDiff]), by rfl, by rw [DH_same hR]⟩ ?_
  rintro ⟨q, k, d⟩ fr2 G ⟨q1, q2, k1, dl, dk, dr, f0, f1, f5, f6, f7, rfl⟩ hM
  simp only at q1 q2 k1 dl dk dr f5 f7
  rw [Ret_code l54_1.eq_1]
  have hsd : ∀ X, Sl (DH encK H R d.toArray ++ X) encK 3 (some ⟨R, 0, none⟩) d := fun X => by
    have := DH_sl (X := X) (d := d.toArray) (p := some ⟨R, 0, none⟩) rfl hRl encK_len
    simpa using this
  have wq1 : IntKind.i64.wrap ((q : Int) + 1) = ((q + 1 : Nat) : Int) := wrap_nat (by omega)
  have wq0 : IntKind.i64.wrap ((q : Int) - 1) = ((q - 1 : Nat) : Int) := wrap_pred (by omega) (by omega)
  have wk1 : IntKind.i64.wrap ((k : Int) + 1) = ((k + 1 : Nat) : Int) := wrap_nat (by omega)
  by_cases hq : q < l.length - i
  · have hix : ∀ r, r < l.length - i → ∀ (c : Nat) (kk : IntKind) (H1 : Heap), idxK 3 (.slice (some ⟨R, i * 3, none⟩) (l.length - i) c) (.int kk (r : Int)) H1 = some (.pointer (some (elt (some ⟨R, 0, none⟩) 3 (i + r))), H1) := fun r hr c kk H1 => by
      rw [idxK_nat hr]
      simp only [elt, addrOf, Option.getD_some, addr_add, Nat.zero_add, Nat.add_mul]
    have hi1 := hix q hq
    have hi0 := hix (q - 1) (by omega)
    have ld1 := fun X => (hsd X).loadCells encK_len (i := i + q) (by omega)
    have ld0 := fun X => (hsd X).loadCells encK_len (i := i + (q - 1)) (by omega)
    rw [dr (i + q) (by omega) (by omega)] at ld1
    rw [dr (i + (q - 1)) (by omega) (by omega)] at ld0
    have ct := compact_take (l := l) (m := i + q) (by omega) (by omega)
    rw [show i + q - 1 = i + (q - 1) by omega] at ct
    by_cases hsm : sameM (gt l (i + q)) (gt l (i + (q - 1)))
    · rw [if_pos hsm, List.append_nil] at ct
      simp only [n54, r54, f0, f1, f5, f6, f7, int_lt_cast, hq, hi1, hi0, ld1, ld0, wq1, wq0, sameM_ok, decide_eq_true hsm, SB, Nat.reduceLT, callee, aOp, ne_eq, Nat.reduceEqDiff, aBin, aUn, if_true, if_false, reduceCtorEq, frame0, place, notTuple, Nat.reduceAdd, Nat.reduceLeDiff, resVal, dite_true, dite_false, Int.reduceEq, Int.reduceLT, Int.reduceLE]
      exact hM (q + 1, k, d) _ _ ⟨by simp only; omega, by simp only; omega, by simp only; omega, dl, by rw [dk]; exact ct.symm, dr, (by simp only [f0, FB, Nat.reduceEqDiff]), (by simp only [f1, FB, Nat.reduceEqDiff]), (by simp only [f5, FB, Nat.reduceEqDiff]), (by simp only [f6, FB, Nat.reduceEqDiff]), (by simp only [FB, Nat.reduceEqDiff]), rfl⟩ (by simp only; omega)
    · rw [if_neg hsm] at ct
      have hst := DH_st (lim := lim) (X := []) (d := d.toArray) (p := some ⟨R, 0, none⟩) (i := k) (y := gt l (i + q)) rfl hRl hl encK_len (by simp; omega)
      have hsa : d.toArray.setIfInBounds k (gt l (i + q)) = (d.set k (gt l (i + q))).toArray := by simp
      rw [hsa] at hst
      have hik := fun c (kk : IntKind) (H1 : Heap) => idxK_nat (e := 3) (n := k) (len := l.length) (c := c) (p := ⟨R, 0, none⟩) (k := kk) (H := H1) (by omega)
      have hek : (⟨R, 0, none⟩ : Addr).add (k * 3) = elt (some ⟨R, 0, none⟩) 3 k := rfl
      rw [hek] at hik
      simp only [n54, r54, f0, f1, f5, f6, f7, int_lt_cast, hq, hi1, hi0, ld1, ld0, wq1, wq0, wk1, sameM_ok, decide_eq_false hsm, hik, hst, encK_len, SB, Nat.reduceLT, callee, aOp, ne_eq, Nat.reduceEqDiff, aBin, aUn, if_true, if_false, reduceCtorEq, frame0, place, notTuple, Nat.reduceAdd, Nat.reduceLeDiff, resVal, dite_true, dite_false, Int.reduceEq, Int.reduceLT, Int.reduceLE]
      refine hM (q + 1, k + 1, d.set k (gt l (i + q))) _ _ ⟨by simp only; omega, by simp only; omega, by simp only; omega, by simp only [List.length_set]; exact dl, ?_, fun j h1 h2 => ?_, (by simp only [f0, FB, Nat.reduceEqDiff]), (by simp only [f1, FB, Nat.reduceEqDiff]), (by simp only [FB, Nat.reduceEqDiff]), (by simp only [f6, FB, Nat.reduceEqDiff]), (by simp only [FB, Nat.reduceEqDiff]), rfl⟩ (by simp only; omega)
      · show (d.set k (gt l (i + q))).take (k + 1) = compactN (l.take (i + q + 1))
        rw [ct, ← dk, List.take_succ_eq_append_getElem (by simp; omega), List.getElem_set_self, List.take_set_of_le (Nat.le_refl _)]
      · simp only at h1 ⊢
        have h3 : j < (d.set k (gt l (i + q))).length := by simp; omega
        rw [gt_lt h3, List.getElem_set_ne (by omega), ← gt_lt (by omega)]
        exact dr j (by omega) h2
  · obtain rfl : q = l.length - i := by omega
    rw [show i + (l.length - i) = l.length by omega, List.take_length] at dk
    rw [show i + (l.length - i) = l.length by omega] at k1
    have hkl : (compactN l).length = k := by rw [← dk, List.length_take]; omega
    have hsk := slice_from (R := R) (n := l.length) (lo := k) (by omega) (by omega)
    have htk := slice_to (R := R) (n := l.length) (hi := k) (by omega) (by omega)
    have hnz : ¬ l.length - k = 0 := by omega
    have hcl : AM.storeAt lim (DH encK H R d.toArray ++ []) ⟨R, k * 3, none⟩ ((List.replicate (l.length - k) zeroM).flatMap encK) = some (DH encK H R (d.take k ++ List.replicate (d.length - k) zeroM).toArray ++ []) := by
      have hg := DH_get (enc := encK) (X := []) (d := d.toArray) hRl
      rw [storeAt_lit, hg]
      have hlen : ((List.replicate (l.length - k) zeroM).flatMap encK).length = (l.length - k) * 3 := by rw [flat_len encK_len, List.length_replicate]
      have hlen2 : (d.flatMap encK).length = l.length * 3 := by rw [flat_len encK_len, dl]
      simp only [hlen, hlen2]
      rw [if_pos ⟨hl, by omega⟩, ← dl, clear_cells (by omega)]
      simp only [List.append_nil, DH, List.set_set]
    simp only [n54, r54, f0, f1, f5, f6, f7, int_lt_cast, hq, hsk, htk, hnz, zeros_eq, hcl, SB, Nat.reduceLT, callee, aOp, ne_eq, Nat.reduceEqDiff, aBin, aUn, if_true, if_false, reduceCtorEq, frame0, place, notTuple, Nat.reduceAdd, Nat.reduceLeDiff, resVal, dite_true, dite_false, Int.reduceEq, Int.reduceLT, Int.reduceLE]
    have hsl : Sl (DH encK H R (d.take k ++ List.replicate (d.length - k) zeroM).toArray) encK 3 (some ⟨R, 0, none⟩) (compactN l) := by
      have h1 := DH_sl (X := []) (d := (d.take k ++ List.replicate (d.length - k) zeroM).toArray) (p := some ⟨R, 0, none⟩) rfl hRl encK_len
      rw [List.append_nil] at h1
      have h2 := Sl.pre h1 encK_len
      rw [← dk]; exact h2
    have := hQ _ hsl ⟨by simp [DH], fun j hj hA => hget_set_ne (by simpa using hA)⟩
    rwa [hkl] at this
theorem compact_nil [OB] {lim : Nat} {H : Heap} {Q : Value → Heap → Prop} : CallR E false lim 54 [.slice none 0 0, .func (.func 55) #[] #[]] H Q = Q (.slice none 0 0) H := by
  refine CallR.eq ?_
  refine runs' (by decide) e54 rfl ?_
  rw [b54, c54]
  simp only [n54, r54, SB, Nat.reduceLT, callee, aOp, ne_eq, Nat.reduceEqDiff, aBin, aUn, if_true, if_false, reduceCtorEq, frame0, place, notTuple, Nat.reduceAdd, Nat.reduceLeDiff, resVal, dite_true, dite_false, Int.reduceEq, Int.reduceLT, Int.reduceLE]
  exact List.append_nil H
theorem values_ok [OB] {lim R : Nat} {H : Heap} {Q : Value → Heap → Prop} : CallR E false lim 50 [.map (some R)] H Q = Q (.func (.func 64) #[] #[.pointer (some ⟨H.length, 0, none⟩)]) (H ++ [.cells false [.map (some R)]]) := by
  refine CallR.eq ?_
  refine runs' (by decide) e50 rfl ?_
  rw [b50, c50]
  simp only [n50, r50, SB, Nat.reduceLT, callee, aOp, ne_eq, Nat.reduceEqDiff, aBin, aUn, if_true, if_false, reduceCtorEq, frame0, place, notTuple, Nat.reduceAdd, Nat.reduceLeDiff, resVal, dite_true, dite_false, Int.reduceEq, Int.reduceLT, Int.reduceLE]
def esOf (S : List Ev) (i : Nat) : Ess := (S.take i).foldl leastAdd []
theorem esOf_succ {S : List Ev} {i : Nat} (h : i < S.length) : esOf S (i + 1) = leastAdd (esOf S i) (gt S i) := by
  unfold esOf
  rw [List.take_succ_eq_append_getElem h, List.foldl_append, gt_lt h]; rfl
theorem esOf_len (S : List Ev) : ∀ i, (esOf S i).length ≤ i
  | 0 => Nat.le_refl _
  | i + 1 => by
    rcases Nat.lt_or_ge i S.length with h | h
    · rw [esOf_succ h]
      have := esOf_len S i
      unfold leastAdd
      split
      · rw [putM_K]; have := putK_len (k := keyM (gt S i)) (v := mkM (gt S i)) (l := esOf S i); omega
      split
      · rw [putM_K]; have := putK_len (k := keyM (gt S i)) (v := mkM (gt S i)) (l := esOf S i); omega
      · omega
    · have e : esOf S (i + 1) = esOf S i := by unfold esOf; rw [List.take_of_length_le h, List.take_of_length_le (by omega)]
      rw [e]; have := esOf_len S i; omega
theorem gather_ok [OB] {lim c : Nat} {p : Option Addr} {S : List Ev} {H : Heap} {Q : Value → Heap → Prop} (hs : Sl H encN 6 p S) (hS : RightL S) (hl : lim ≤ H.length)
    (hQ : ∀ G p' c', Sl G encK 3 p' (gatherN S) → CapOk 3 c' (gatherN S).length → Chg [] H G → Q (.slice p' (gatherN S).length c') (G ++ [])) :
    CallR Ef false lim 39 [.slice p S.length c] H Q := by
  have hn := hS.1
  refine runsF (by decide) e39 rfl ?_
  rw [b39, c39]
  simp only [n39, r39, SB, Nat.reduceLT, callee, aOp, ne_eq, Nat.reduceEqDiff, aBin, aUn, if_true, if_false, reduceCtorEq, frame0, place, notTuple, Nat.reduceAdd, Nat.reduceLeDiff, resVal, dite_true, dite_false, Int.reduceEq, Int.reduceLT, Int.reduceLE]
  refine Ret_rounds (fun i => S.length - i) (fun i fr G => i ≤ S.length ∧ fr 3 = .map (some H.length) ∧ fr 12 = .slice p S.length c ∧ fr 13 = .int .i64 (S.length : Int) ∧ fr 14 = .int .i64 (i : Int) ∧ hget G H.length = .map (encM kM vK (esOf S i)) ∧ H.length < G.length ∧ Sl G encN 6 p S ∧ ∀ j, j < H.length → hget G j = hget H j) 0
    ⟨Nat.zero_le _, (by simp only [FB, Nat.reduceEqDiff]), (by simp only [FB, Nat.reduceEqDiff]), (by simp only [FB, Nat.reduceEqDiff]), by rfl, by rw [hget_new0]; rfl, by simp, hs.app _, fun j hj => hget_old hj⟩ ?_
  rintro i fr G ⟨hi, g3, g12, g13, g14, gm, gl, gs, go⟩ hN
  rw [Ret_code l39_1.eq_1]
  refine Ret_pad ?_
  have gmX : ∀ X, hget (G ++ X) H.length = .map (encM kM vK (esOf S i)) := fun X => by rw [hget_old gl]; exact gm
  by_cases hlt : i < S.length
  · have hld := fun X => (gs.app X).loadCells encN_len hlt
    have hidx := fun c (k : IntKind) (H1 : Heap) => gs.idx (c := c) (k := k) (H1 := H1) hlt
    have hw1 : IntKind.i64.wrap ((i : Int) + 1) = ((i + 1 : Nat) : Int) := wrap_nat (by omega)
    have hf : FineE (gt S i) := hS.2 _ (gt_mem hlt)
    have hf' := hf
    unfold FineE maxT at hf'
    have hsc := esOf_succ hlt
    generalize hsx : gt S i = s at *
    have wq : IntKind.i64.wrap (Int.tdiv s.seen 1440) = s.seen / 1440 := by
      rw [Int.tdiv_eq_ediv_of_nonneg (by omega)]; exact wrap_id (by omega) (by omega)
    have wd : IntKind.i64.wrap (s.seen - s.at') = s.seen - s.at' := wrap_id (by omega) (by omega)
    have hlG : lim ≤ G.length := by omega
    have hk : keyOk (.ints [.i64, .i64]) (.agg #[.int .i64 s.scanner, .int .i64 (s.seen / 1440)]) = true := kM_ok (k := keyM s)
    have hfk := findKey_enc (vv := vK) kM_eq (keyM s) (esOf S i) 0
    have hkey : kM (keyM s) = .agg #[.int .i64 s.scanner, .int .i64 (s.seen / 1440)] := rfl
    have hval : vK (mkM s) = .agg #[.int .i64 s.scanner, .int .i64 s.at', .int .i64 (s.seen - s.at')] := rfl
    rw [hkey] at hfk
    have hget' := fk_get (keyM s) (esOf S i) 0
    rw [← getM_K] at hget'
    have fin : ∀ (es' : Ess) (G1 : Heap) (X : Heap), hget G1 H.length = .map (encM kM vK es') → es' = esOf S (i + 1) → (∀ j, j ≠ H.length → hget G1 j = hget G j) → G1.length = G.length →
        hget (G1 ++ X) H.length = .map (encM kM vK (esOf S (i + 1))) ∧ H.length < (G1 ++ X).length ∧ Sl (G1 ++ X) encN 6 p S ∧ ∀ j, j < H.length → hget (G1 ++ X) j = hget H j := by
      intro es' G1 X h1 h2 m1 l1
      subst h2
      refine ⟨by rw [hget_old (by omega)]; exact h1, by simp; omega, ?_, fun j hj => by rw [hget_old (by omega), m1 j (by omega)]; exact go j hj⟩
      refine (Sl.same gs fun a ha hne => ?_).app _
      subst ha
      have := hs.lt hne
      exact m1 _ (by omega)
    have mutM : ∀ es' : List (Value × Value), ∃ G1, (∀ X : Heap, (G ++ X).set H.length (.map es') = G1 ++ X) ∧ hget G1 H.length = .map es' ∧ Mut G G1 H.length := fun es' => mut_set gl _
    cases hc : fk (keyM s) (esOf S i) 0 with
    | none =>
      rw [hc] at hfk hget'
      simp only [Option.map_none] at hfk hget'
      have hput : esOf S (i + 1) = putM (keyM s) (mkM s) (esOf S i) := by rw [hsc]; unfold leastAdd; rw [← hget']
      obtain ⟨G1, e1, h1, m1⟩ := mutM (encM kM vK (esOf S i) ++ [(.agg #[.int .i64 s.scanner, .int .i64 (s.seen / 1440)], .agg #[.int .i64 s.scanner, .int .i64 s.at', .int .i64 (s.seen - s.at')])])
      have h1' : hget G1 H.length = .map (encM kM vK (putK (keyM s) (mkM s) (esOf S i))) := by
        rw [h1, ← fk_none (v' := mkM s) hc]; simp only [encM, List.map_append, List.map_cons, List.map_nil]; rfl
      simp only [n39, r39, g3, g12, g13, g14, int_lt_cast, hlt, hidx, hld, hlG, encN_len, encN_0, encN_1, encN_2, encN_3, encN_4, encN_5, take_all, setAll_full, wq, wd, hw1, gmX, hk, hfk, e1, hl, SB, Nat.reduceLT, callee, aOp, ne_eq, Nat.reduceEqDiff, aBin, aUn, if_true, if_false, reduceCtorEq, frame0, place, notTuple, Nat.reduceAdd, Nat.reduceLeDiff, resVal, dite_true, dite_false, Int.reduceEq, Int.reduceLT, Int.reduceLE]
      obtain ⟨a1, a2, a3, a4⟩ := fin _ G1 _ h1' (by rw [hput, putM_K]) m1.other m1.len
      exact hN (i + 1) _ _ ⟨by omega, (by simp only [g3, FB, Nat.reduceEqDiff]), (by simp only [g12, FB, Nat.reduceEqDiff]), (by simp only [g13, FB, Nat.reduceEqDiff]), (by simp only [FB, Nat.reduceEqDiff]), a1, a2, a3, a4⟩ (by omega)
    | some x =>
      obtain ⟨j, old⟩ := x
      rw [hc] at hfk hget'
      simp only [Option.map_some] at hfk hget'
      have hvo : vK old = .agg #[.int .i64 old.scanner, .int .i64 old.at', .int .i64 old.off] := rfl
      rw [hvo] at hfk
      have hla : esOf S (i + 1) = if better (mkM s) old then putM (keyM s) (mkM s) (esOf S i) else esOf S i := by rw [hsc]; unfold leastAdd; rw [← hget']
      obtain ⟨G1, e1, h1, m1⟩ := mutM ((encM kM vK (esOf S i)).set j (.agg #[.int .i64 s.scanner, .int .i64 (s.seen / 1440)], .agg #[.int .i64 s.scanner, .int .i64 s.at', .int .i64 (s.seen - s.at')]))
      have h1' : hget G1 H.length = .map (encM kM vK (putK (keyM s) (mkM s) (esOf S i))) := by
        rw [h1, ← (fk_some (v' := mkM s) hc).2.2]; simp only [encM, List.map_set, Nat.sub_zero]; rfl
      by_cases c1 : s.seen - s.at' < old.off
      · simp only [n39, r39, g3, g12, g13, g14, int_lt_cast, hlt, hidx, hld, hlG, encN_len, encN_0, encN_1, encN_2, encN_3, encN_4, encN_5, take_all, setAll_full, wq, wd, hw1, gmX, hk, hfk, e1, hl, eq_true c1, SB, Nat.reduceLT, callee, aOp, ne_eq, Nat.reduceEqDiff, aBin, aUn, if_true, if_false, reduceCtorEq, frame0, place, notTuple, Nat.reduceAdd, Nat.reduceLeDiff, resVal, dite_true, dite_false, Int.reduceEq, Int.reduceLT, Int.reduceLE]
        obtain ⟨a1, a2, a3, a4⟩ := fin _ G1 _ h1' (by rw [hla, if_pos (.inl c1), putM_K]) m1.other m1.len
        exact hN (i + 1) _ _ ⟨by omega, (by simp only [g3, FB, Nat.reduceEqDiff]), (by simp only [g12, FB, Nat.reduceEqDiff]), (by simp only [g13, FB, Nat.reduceEqDiff]), (by simp only [FB, Nat.reduceEqDiff]), a1, a2, a3, a4⟩ (by omega)
      by_cases c2 : s.seen - s.at' = old.off
      · by_cases c3 : s.at' < old.at'
        · simp only [n39, r39, g3, g12, g13, g14, int_lt_cast, hlt, hidx, hld, hlG, encN_len, encN_0, encN_1, encN_2, encN_3, encN_4, encN_5, take_all, setAll_full, wq, wd, hw1, gmX, hk, hfk, e1, hl, eq_false c1, eq_true c2, eq_true c3, SB, Nat.reduceLT, callee, aOp, ne_eq, Nat.reduceEqDiff, aBin, aUn, if_true, if_false, reduceCtorEq, frame0, place, notTuple, Nat.reduceAdd, Nat.reduceLeDiff, resVal, dite_true, dite_false, Int.reduceEq, Int.reduceLT, Int.reduceLE]
          obtain ⟨a1, a2, a3, a4⟩ := fin _ G1 _ h1' (by rw [hla, if_pos (.inr ⟨c2, c3⟩), putM_K]) m1.other m1.len
          exact hN (i + 1) _ _ ⟨by omega, (by simp only [g3, FB, Nat.reduceEqDiff]), (by simp only [g12, FB, Nat.reduceEqDiff]), (by simp only [g13, FB, Nat.reduceEqDiff]), (by simp only [FB, Nat.reduceEqDiff]), a1, a2, a3, a4⟩ (by omega)
        · simp only [n39, r39, g3, g12, g13, g14, int_lt_cast, hlt, hidx, hld, hlG, encN_len, encN_0, encN_1, encN_2, encN_3, encN_4, encN_5, take_all, setAll_full, wq, wd, hw1, gmX, hk, hfk, e1, hl, eq_false c1, eq_true c2, eq_false c3, SB, Nat.reduceLT, callee, aOp, ne_eq, Nat.reduceEqDiff, aBin, aUn, if_true, if_false, reduceCtorEq, frame0, place, notTuple, Nat.reduceAdd, Nat.reduceLeDiff, resVal, dite_true, dite_false, Int.reduceEq, Int.reduceLT, Int.reduceLE]
          obtain ⟨a1, a2, a3, a4⟩ := fin _ G _ gm (by rw [hla, if_neg (by unfold better mkM; simp only; omega)]) (fun _ _ => rfl) rfl
          exact hN (i + 1) _ _ ⟨by omega, (by simp only [g3, FB, Nat.reduceEqDiff]), (by simp only [g12, FB, Nat.reduceEqDiff]), (by simp only [g13, FB, Nat.reduceEqDiff]), (by simp only [FB, Nat.reduceEqDiff]), a1, a2, a3, a4⟩ (by omega)
      · simp only [n39, r39, g3, g12, g13, g14, int_lt_cast, hlt, hidx, hld, hlG, encN_len, encN_0, encN_1, encN_2, encN_3, encN_4, encN_5, take_all, setAll_full, wq, wd, hw1, gmX, hk, hfk, e1, hl, eq_false c1, eq_false c2, SB, Nat.reduceLT, callee, aOp, ne_eq, Nat.reduceEqDiff, aBin, aUn, if_true, if_false, reduceCtorEq, frame0, place, notTuple, Nat.reduceAdd, Nat.reduceLeDiff, resVal, dite_true, dite_false, Int.reduceEq, Int.reduceLT, Int.reduceLE]
        obtain ⟨a1, a2, a3, a4⟩ := fin _ G _ gm (by rw [hla, if_neg (by unfold better mkM; simp only; omega)]) (fun _ _ => rfl) rfl
        exact hN (i + 1) _ _ ⟨by omega, (by simp only [g3, FB, Nat.reduceEqDiff]), (by simp only [g12, FB, Nat.reduceEqDiff]), (by simp only [g13, FB, Nat.reduceEqDiff]), (by simp only [FB, Nat.reduceEqDiff]), a1, a2, a3, a4⟩ (by omega)
  · obtain rfl : i = S.length := by omega
    have hes : esOf S S.length = leastN S := by unfold esOf leastN; rw [List.take_length]
    rw [hes] at gm gmX
    have hv := fun (X : Heap) (Q : Value → Heap → Prop) => CallR.eqF' (Q := Q) (show CallR E false lim 50 [.map (some H.length)] (G ++ X) (fun v' H1 => v' = _ ∧ H1 = _) by rw [values_ok]; exact ⟨rfl, rfl⟩)
    simp only [n39, r39, g3, g12, g13, g14, int_lt_cast, hlt, hv, SB, Nat.reduceLT, callee, aOp, ne_eq, Nat.reduceEqDiff, aBin, aUn, if_true, if_false, reduceCtorEq, frame0, place, notTuple, Nat.reduceAdd, Nat.reduceLeDiff, resVal, dite_true, dite_false, Int.reduceEq, Int.reduceLT, Int.reduceLE]
    have hle := esOf_len S S.length
    rw [hes] at hle
    refine sorted_ok (es := leastN S) (R := H.length) (by simp; omega) (by rw [hget_new0]; rfl) (gmX _) (by omega) fun G1 p1 c1 hO hC => ?_
    have hL : (sortB keysM ((leastN S).map (·.2))).length = (leastN S).length := by rw [(sortB_perm keysM _).length_eq, List.length_map]
    have hold : ∀ j, j < H.length → hget G1 j = hget H j := fun j hj => by
      rw [hC.other j (by simp; omega) (by simp), hget_old (by omega)]; exact go j hj
    have hlen := hC.len
    simp only [List.length_append, List.length_cons, List.length_nil] at hlen
    rcases hO with ⟨h0, rfl, rfl⟩ | ⟨R, rfl, rfl, hR, hRl⟩
    · have hg : gatherN S = [] := by unfold gatherN; rw [h0]; rfl
      have hz : (leastN S).length = 0 := by rw [← hL, h0]; rfl
      rw [hz]
      have hcn := fun X (Q : Value → Heap → Prop) => CallR.eqF (Q := Q) (show CallR E false lim 54 [.slice none 0 0, .func (.func 55) #[] #[]] (G1 ++ X) (fun v' H1 => v' = .slice none 0 0 ∧ H1 = G1 ++ X) by rw [compact_nil]; exact ⟨rfl, rfl⟩)
      simp only [n39, r39, hcn, SB, Nat.reduceLT, callee, aOp, ne_eq, Nat.reduceEqDiff, aBin, aUn, if_true, if_false, reduceCtorEq, frame0, place, notTuple, Nat.reduceAdd, Nat.reduceLeDiff, resVal, dite_true, dite_false, Int.reduceEq, Int.reduceLT, Int.reduceLE]
      have := hQ G1 none 0 (by rw [hg]; rfl) (by rw [hg]; exact .inr ⟨Nat.le_refl _, by decide⟩) ⟨by omega, fun j hj _ => hold j hj⟩
      rw [hg] at this
      exact this
    · rw [← hL]
      simp only [n39, r39, SB, Nat.reduceLT, callee, aOp, ne_eq, Nat.reduceEqDiff, aBin, aUn, if_true, if_false, reduceCtorEq, frame0, place, notTuple, Nat.reduceAdd, Nat.reduceLeDiff, resVal, dite_true, dite_false, Int.reduceEq, Int.reduceLT, Int.reduceLE]
      simp only [List.length_append, List.length_cons, List.length_nil] at hRl
      refine CallR.weak (E' := E) ?_
      rw [List.append_nil]
      refine compact_ok hR (by omega) (by omega) fun G2 hs2 hC2 => ?_
      refine Ret_pad ?_
      simp only [n39, r39, SB, Nat.reduceLT, callee, aOp, ne_eq, Nat.reduceEqDiff, aBin, aUn, if_true, if_false, reduceCtorEq, frame0, place, notTuple, Nat.reduceAdd, Nat.reduceLeDiff, resVal, dite_true, dite_false, Int.reduceEq, Int.reduceLT, Int.reduceLE]
      refine hQ G2 _ _ hs2 (.inl rfl) ⟨by have := hC2.len; omega, fun j hj _ => ?_⟩
      rw [hC2.other j (by omega) (by simp; omega)]
      exact hold j hj
theorem append_room1 {α : Type} {lim R e bytes cap k b : Nat} {dest : Option Nat} {H : Heap} {enc : α → List Value} {old : List α} {x : α} {ro : Bool} {rest : List Value} (he : ∀ x, (enc x).length = e) (he0 : e ≠ 0) (hx : hget H b = .cells ro (enc x)) (hR : hget H R = .cells false (old.flatMap enc ++ rest)) (hl : lim ≤ R)
    (hc : old.length + 1 ≤ cap) (hr : rest.length = (cap - old.length) * e) (hcap : cap < 2 ^ 61) (hb : (old.length + 1) * bytes ≤ maxBytes) :
    aAppend lim dest e bytes false (.slice (some ⟨R, 0, none⟩) old.length cap) (.slice (some ⟨b, 0, none⟩) 1 k) H = some (.slice (some ⟨R, 0, none⟩) (old.length + 1) cap, H.set R (.cells false ((old ++ [x]).flatMap enc ++ rest.drop e))) := by
  have hRl := hget_alive hR
  have hx' : AM.loadCells H ⟨b, 0, none⟩ (1 * e) = some (enc x) := by
    rw [loadCells_lit, hx]
    simp only [Nat.zero_add, List.drop_zero, Nat.one_mul]
    rw [if_pos (by rw [he]; exact Nat.le_refl _), ← he x, List.take_length]
  have hle : e ≤ rest.length := by rw [hr]; exact Nat.le_mul_of_pos_left e (by omega)
  have hy : AM.loadCells H ⟨R, 0, none⟩ (old.length * e) = some (old.flatMap enc) := by
    rw [loadCells_lit, hR]
    simp only [Nat.zero_add, List.drop_zero]
    rw [if_pos (by rw [List.length_append, flat_len he]; omega), ← flat_len he, List.take_left]
  have hst : AM.storeAt lim H (Addr.add ⟨R, 0, none⟩ (old.length * e)) (enc x) = some (H.set R (.cells false ((old ++ [x]).flatMap enc ++ rest.drop e))) := by
    simp only [addr_add, storeAt_lit, hR, Nat.zero_add]
    rw [if_pos ⟨hl, by rw [List.length_append, flat_len he, he]; omega⟩]
    have := setAll_mid (enc x) (old.flatMap enc) (rest.take e) (rest.drop e) (by rw [he, List.length_take]; omega)
    rw [List.append_assoc, List.take_append_drop, flat_len he] at this
    rw [this, List.flatMap_append, List.flatMap_cons, List.flatMap_nil, List.append_nil]
  simp only [aAppend, firstCells, lenOf, hx', hy, hst, if_false, Bool.false_eq_true, Nat.one_ne_zero]
  rw [if_neg (by omega), if_neg (by unfold loose; omega), if_pos (by omega), if_pos (by omega)]
def evOf (M : List Mk) (S : List Ev) : List Ev := S.map fun s => { s with time := timeN M s }
theorem evOf_len {M : List Mk} {S : List Ev} : (evOf M S).length = S.length := List.length_map ..
theorem evOf_gt {M : List Mk} {S : List Ev} {i : Nat} (h : i < S.length) : gt (evOf M S) i = { gt S i with time := timeN M (gt S i) } := by
  rw [gt_lt (by rw [evOf_len]; exact h), gt_lt h]
  unfold evOf
  rw [List.getElem_map]
structure ESt (H : Heap) (M : List Mk) (S : List Ev) (p pm : Option Addr) (B i : Nat) (G : Heap) : Prop where
  row : ∃ rest, rest.length = (S.length - i) * 7 ∧ hget G B = .cells false (((evOf M S).take i).flatMap encE ++ rest)
  sm : Sl G encK 3 pm M
  ss : Sl G encN 6 p S
  old : ∀ j, j < H.length → hget G j = hget H j
  len : B < G.length
def opB (p : Option Addr) : List Nat := match p with
  | none => []
  | some a => [a.block]
theorem opB_mem {p : Option Addr} {j : Nat} (h : j ∈ opB p) : ∃ a, p = some a ∧ j = a.block := by
  cases p with
  | none => cases h
  | some a => exact ⟨a, rfl, by simpa [opB] using h⟩
theorem opB_not {p : Option Addr} {j : Nat} (h : j ∉ opB p) : ∀ a, p = some a → j ≠ a.block := fun a e h2 => h (by rw [e]; simp [opB, h2])
structure FSt (H : Heap) (EV : List Ev) (B Mp : Nat) (kr tr : List Ev) (es : List ((Int × Int × Int) × Int)) (kp tp : Option Addr) (kc tc : Nat) (G : Heap) : Prop where
  mp : hget G Mp = .map (encM kS vI es)
  ev : hget G B = .cells false (EV.flatMap encE)
  ko : Own (Mp + 1) G encE 7 kp kc kr.reverse
  to : Own (Mp + 1) G encE 7 tp tc tr.reverse
  ne : ∀ a b, kp = some a → tp = some b → a.block ≠ b.block
  old : ∀ j, j < H.length → hget G j = hget H j
  len : Mp < G.length
  rel : ∀ e, getK (sight e) es = (lastK e kr).map (·.time)
  sub : ∀ x ∈ kr, x ∈ EV
theorem FSt.twice {H : Heap} {EV : List Ev} {B Mp : Nat} {kr tr : List Ev} {es : List ((Int × Int × Int) × Int)} {kp tp : Option Addr} {kc tc : Nat} {G : Heap} {lim : Nat} (h : FSt H EV B Mp kr tr es kp tp kc tc G) (hl : lim ≤ H.length) (hHB : H.length ≤ B) (hBM : B < Mp) (e : Ev) (hn : tr.length < 4000) (x y : Blk) :
    ∃ G', aAppend lim none 7 56 false (.slice tp tr.length tc) (.slice (some ⟨G.length + 2, 0, none⟩) 1 1) (G ++ [x, y, .cells false (encE e)]) = some (.slice (some ⟨G.length + 3, 0, none⟩) (tr.length + 1) (loose 7), G' ++ []) ∧ FSt H EV B Mp kr (e :: tr) es kp (some ⟨G.length + 3, 0, none⟩) kc (loose 7) (G' ++ []) := by
  have len := h.len
  obtain ⟨G2, e2, own2, _, hold2, len2, _⟩ := h.to.step (lim' := lim) (bytes := 56) (by omega) encE_len (by decide) e (by rw [List.length_reverse]; unfold maxBytes; omega) (by rw [List.length_reverse]; omega) (by omega) [x, y, .cells false (encE e)] (G.length + 2) 1 (by rw [hget_new]; rfl)
  rw [List.length_reverse] at e2
  simp only [List.length_cons, List.length_nil, Nat.zero_add, Nat.reduceAdd] at e2 own2 len2
  have nt : ∀ j, j ≤ Mp → ∀ a, tp = some a → j ≠ a.block := fun j hj a ha => by have := (h.to.block ha).1; omega
  have hc : Chg (opB tp) G (G2 ++ []) := ⟨by simp; omega, fun j hj hA => hold2 j hj (opB_not hA)⟩
  refine ⟨G2, e2, (hold2 _ len (nt _ (Nat.le_refl _))).trans h.mp, (hold2 _ (by omega) (nt _ (by omega))).trans h.ev, h.ko.chg hc fun a ha hh => ?_, by rw [List.reverse_cons]; exact own2, fun a b ha hb => ?_, fun j hj => (hold2 j (by omega) (nt _ (by omega))).trans (h.old j hj), by simp; omega, h.rel, h.sub⟩
  · obtain ⟨b, hb, e⟩ := opB_mem hh
    exact h.ne a b ha hb e
  · cases hb
    have := (h.ko.block ha).2
    show a.block ≠ G.length + 3
    omega
theorem lastK_cons {e x : Ev} {kr : List Ev} : lastK e (x :: kr) = if sight x = sight e then some x else lastK e kr := by
  unfold lastK
  by_cases h : sight x = sight e
  · rw [List.find?_cons_of_pos (by simpa using h), if_pos h]
  · rw [List.find?_cons_of_neg (by simpa using h), if_neg h]
theorem FSt.kept {H : Heap} {EV : List Ev} {B Mp : Nat} {kr tr : List Ev} {es : List ((Int × Int × Int) × Int)} {kp tp : Option Addr} {kc tc : Nat} {G : Heap} {lim : Nat} (h : FSt H EV B Mp kr tr es kp tp kc tc G) (hl : lim ≤ H.length) (hHB : H.length ≤ B) (hBM : B < Mp) (e : Ev) (he : e ∈ EV) (hn : kr.length < 4000) (x y : Blk) :
    ∃ G1, (∀ X : Heap, (G ++ X).set Mp (.map (encM kS vI (putK (sight e) e.time es))) = G1 ++ X) ∧ ∃ G', aAppend lim none 7 56 false (.slice kp kr.length kc) (.slice (some ⟨G1.length + 2, 0, none⟩) 1 1) (G1 ++ [x, y, .cells false (encE e)]) = some (.slice (some ⟨G1.length + 3, 0, none⟩) (kr.length + 1) (loose 7), G' ++ []) ∧
      FSt H EV B Mp (e :: kr) tr (putK (sight e) e.time es) (some ⟨G1.length + 3, 0, none⟩) tp (loose 7) tc (G' ++ []) ∧ G1.length = G.length := by
  have len := h.len
  obtain ⟨G1, e1, h1, m1⟩ := mut_set (G := G) (R := Mp) len (.map (encM kS vI (putK (sight e) e.time es)))
  have l1 := m1.len
  have nk : ∀ j, j ≤ Mp → ∀ a, kp = some a → j ≠ a.block := fun j hj a ha => by have := (h.ko.block ha).1; omega
  have nt : ∀ j, j ≤ Mp → ∀ a, tp = some a → j ≠ a.block := fun j hj a ha => by have := (h.to.block ha).1; omega
  have ko1 := h.ko.mut m1 (fun a ha => (nk Mp (Nat.le_refl _) a ha).symm)
  have to1 := h.to.mut m1 (fun a ha => (nt Mp (Nat.le_refl _) a ha).symm)
  obtain ⟨G2, e2, own2, _, hold2, len2, _⟩ := ko1.step (lim' := lim) (bytes := 56) (by omega) encE_len (by decide) e (by rw [List.length_reverse]; unfold maxBytes; omega) (by rw [List.length_reverse]; omega) (by omega) [x, y, .cells false (encE e)] (G1.length + 2) 1 (by rw [hget_new]; rfl)
  rw [List.length_reverse] at e2
  simp only [List.length_cons, List.length_nil, Nat.zero_add, Nat.reduceAdd] at e2 own2 len2
  have hc : Chg (opB kp) G1 (G2 ++ []) := ⟨by simp; omega, fun j hj hA => hold2 j hj (opB_not hA)⟩
  refine ⟨G1, e1, G2, e2, ⟨(hold2 _ (by omega) (nk _ (Nat.le_refl _))).trans h1, (hold2 _ (by omega) (nk _ (by omega))).trans ((m1.other _ (by omega)).trans h.ev), by rw [List.reverse_cons]; exact own2, to1.chg hc fun a ha hh => ?_, fun a b ha hb => ?_, fun j hj => (hold2 j (by omega) (nk _ (by omega))).trans ((m1.other j (by omega)).trans (h.old j hj)), by simp; omega, fun a => ?_, fun z hz => ?_⟩, l1⟩
  · obtain ⟨b, hb, e⟩ := opB_mem hh
    exact h.ne b a hb ha e.symm
  · cases ha
    have := (h.to.block hb).2
    show G1.length + 3 ≠ b.block
    omega
  · rw [getK_put, lastK_cons, h.rel]
    by_cases hq : sight a = sight e
    · rw [if_pos hq, if_pos hq.symm]; rfl
    · rw [if_neg hq, if_neg fun q => hq q.symm]
  · rcases List.mem_cons.mp hz with rfl | hz
    · exact he
    · exact h.sub z hz
theorem sift_ok [OB] {lim c : Nat} {p : Option Addr} {S : List Ev} {H : Heap} {Q : Value → Heap → Prop} (hs : Sl H encN 6 p S) (hS : RightL S) (hl : lim ≤ H.length)
    (hQ : ∀ G kp kc tp tc, Own H.length G encE 7 kp kc (siftN S).1 → Own H.length G encE 7 tp tc (siftN S).2 → (∀ a b, kp = some a → tp = some b → a.block ≠ b.block) → Chg [] H G → Q (.tuple #[.slice kp (siftN S).1.length kc, .slice tp (siftN S).2.length tc]) (G ++ [])) :
    CallR Ef false lim 38 [.slice p S.length c] H Q := by
  have hn := hS.1
  refine runsF (by decide) e38 rfl ?_
  rw [b38, c38]
  simp only [n38, r38, SB, Nat.reduceLT, callee, aOp, ne_eq, Nat.reduceEqDiff, aBin, aUn, if_true, if_false, reduceCtorEq, frame0, place, notTuple, Nat.reduceAdd, Nat.reduceLeDiff, resVal, dite_true, dite_false, Int.reduceEq, Int.reduceLT, Int.reduceLE]
  rw [List.append_nil]
  refine gather_ok hs hS hl fun G pm cm sm cmo hC => ?_
  have hMk := Go.Scan.gather_ok hS.2
  generalize hM : gatherN S = M at *
  have lM : M.length ≤ 2000 := by rw [← hM]; have := gather_len S; omega
  have hCl := hC.len
  have hss : ∀ G', (∀ j, j < H.length → hget G' j = hget H j) → Sl G' encN 6 p S := fun G' ho => Sl.same hs fun a ha hne => by
    subst ha; exact ho _ (hs.lt hne)
  have hb1 : (S.length : Int) * 56 ≤ 2 ^ 45 := by omega
  have hb2 : (S.length : Int) < 2 ^ 62 := by omega
  have hz : (List.range (S.length * 7)).length = S.length * 7 := List.length_range
  have hnn : (0 : Int) ≤ (S.length : Int) := by omega
  have hrow0 : ∀ z : List Value, z.length = S.length * 7 → ESt H M S p pm G.length 0 (G ++ [.cells false z]) := fun z hz => by
    have ho : ∀ j, j < H.length → hget (G ++ [.cells false z]) j = hget H j := fun j hj => by rw [hget_old (by omega), hC.other j hj (by simp)]
    exact ⟨⟨z, by rw [hz, Nat.sub_zero], by rw [hget_new0]; rfl⟩, sm.app _, hss _ ho, ho, by simp⟩
  simp only [n38, r38, hb1, hb2, Int.toNat_natCast, Int.toNat_zero, hnn, SB, Nat.reduceLT, callee, aOp, ne_eq, Nat.reduceEqDiff, aBin, aUn, if_true, if_false, reduceCtorEq, frame0, place, notTuple, Nat.reduceAdd, Nat.reduceLeDiff, resVal, dite_true, dite_false, Int.reduceEq, Int.reduceLT, Int.reduceLE]
  refine Ret_rounds (fun i => S.length - i) (fun i fr G2 => i ≤ S.length ∧ fr 2 = .slice none 0 0 ∧ fr 3 = .slice none 0 0 ∧ fr 4 = .slice pm M.length cm ∧ fr 5 = .slice (some ⟨G.length, 0, none⟩) i S.length ∧ fr 19 = .slice p S.length c ∧ fr 20 = .int .i64 (S.length : Int) ∧ fr 21 = .int .i64 (i : Int) ∧ ESt H M S p pm G.length i G2) 0
    ⟨Nat.zero_le _, (by simp only [FB, Nat.reduceEqDiff]), (by simp only [FB, Nat.reduceEqDiff]), (by simp only [FB, Nat.reduceEqDiff]), (by simp only [FB, Nat.reduceEqDiff]), (by simp only [FB, Nat.reduceEqDiff]), (by simp only [FB, Nat.reduceEqDiff]), by rfl, hrow0 _ (by rw [List.length_map, List.length_range])⟩ ?_
  · rintro i fr G2 ⟨hi, g2, g3, g4, g5, g19, g20, g21, ⟨rest, hrl, hrow⟩, sm2, ss2, old2, len2⟩ hN
    rw [Ret_code l38_2.eq_1]
    refine Ret_pad ?_
    by_cases hlt : i < S.length
    · have hld := fun X => (ss2.app X).loadCells encN_len hlt
      have hidx := fun c (k : IntKind) (H1 : Heap) => ss2.idx (c := c) (k := k) (H1 := H1) hlt
      have hw1 : IntKind.i64.wrap ((i : Int) + 1) = ((i + 1 : Nat) : Int) := wrap_nat (by omega)
      have hf : FineE (gt S i) := hS.2 _ (gt_mem hlt)
      have hco := fun X (mp : Bool) (lim : Nat) (Q : Value → Heap → Prop) => correct_ok (mp := mp) (lim := lim) (Q := Q) (sm2.app X) cmo (by omega) hMk hf
      have hlG : lim ≤ G2.length := by omega
      have hevi := evOf_gt (M := M) hlt
      generalize hsx : gt S i = s at *
      generalize htx : timeN M s = t at *
      have hse : setAll [Value.int .i64 0, .int .i64 0, .int .i64 0, .int .u8 0, .int .i64 0, .int .i64 0, .int .i64 0] 0 (encN s) = [.int .i64 s.item, .int .i64 s.place, .int .i64 s.scanner, .int .u8 s.kind, .int .i64 s.at', .int .i64 s.seen, .int .i64 0] := rfl
      have hev : [Value.int .i64 s.item, .int .i64 s.place, .int .i64 s.scanner, .int .u8 s.kind, .int .i64 s.at', .int .i64 s.seen, .int .i64 t] = encE { s with time := t } := rfl
      generalize hex : { s with time := t } = e at *
      have hti : ((evOf M S).take i).length = i := by rw [List.length_take, evOf_len]; omega
      obtain ⟨G3, e3, h3, m3⟩ := mut_set (G := G2) (R := G.length) len2 (.cells false ((((evOf M S).take i) ++ [e]).flatMap encE ++ rest.drop 7))
      have happ := append_room1 (lim := lim) (R := G.length) (bytes := 56) (cap := S.length) (k := 1) (b := G2.length + 1) (dest := some (G2.length + 2)) (H := G2 ++ [.cells false (encN s), .cells false (encE e), .dead]) (enc := encE) (old := (evOf M S).take i) (x := e) (ro := false) (rest := rest) encE_len (by decide)
        (by rw [hget_new]; rfl) (by rw [hget_old len2]; exact hrow) (by omega) (by rw [hti]; omega) (by rw [hti]; exact hrl) (by omega) (by rw [hti]; unfold maxBytes; omega)
      rw [hti, e3] at happ
      simp only [n38, r38, g2, g3, g4, g5, g19, g20, g21, int_lt_cast, hlt, hidx, hld, hlG, encN_len, encN_0, encN_1, encN_2, encN_3, encN_4, encN_5, take_all, setAll_full, hco, hw1, hse, hev, encE_len, happ, SB, Nat.reduceLT, callee, aOp, ne_eq, Nat.reduceEqDiff, aBin, aUn, if_true, if_false, reduceCtorEq, frame0, place, notTuple, Nat.reduceAdd, Nat.reduceLeDiff, resVal, dite_true, dite_false, Int.reduceEq, Int.reduceLT, Int.reduceLE]
      have l3 := m3.len
      have ho3 : ∀ j, j < H.length → hget (G3 ++ [.cells false (encN s), .cells false (encE e), .dead]) j = hget H j := fun j hj => by
        rw [hget_old (by omega), m3.other j (by omega)]; exact old2 j hj
      have sm3 : Sl G3 encK 3 pm M := Sl.same sm2 fun a ha hne => by
        subst ha
        have := sm.lt hne
        exact m3.other _ (by omega)
      refine hN (i + 1) _ _ ⟨by omega, (by simp only [g2, FB, Nat.reduceEqDiff]), (by simp only [g3, FB, Nat.reduceEqDiff]), (by simp only [g4, FB, Nat.reduceEqDiff]), (by simp only [FB, Nat.reduceEqDiff]), (by simp only [g19, FB, Nat.reduceEqDiff]), (by simp only [g20, FB, Nat.reduceEqDiff]), (by simp only [FB, Nat.reduceEqDiff]), ⟨⟨rest.drop 7, by rw [List.length_drop, hrl]; omega, ?_⟩, sm3.app _, hss _ ho3, ho3, by simp; omega⟩⟩ (by omega)
      rw [hget_old (by omega), h3, List.take_succ_eq_append_getElem (i := i) (by rw [evOf_len]; exact hlt), ← gt_lt, hevi]
    · obtain rfl : i = S.length := by omega
      have hr0 : rest = [] := by
        rw [Nat.sub_self, Nat.zero_mul] at hrl
        exact List.length_eq_zero_iff.mp hrl
      rw [hr0, List.append_nil, List.take_of_length_le (by rw [evOf_len]; exact Nat.le_refl _)] at hrow
      obtain ⟨G3, s1, s2, s3⟩ := sortE_ok (lim := lim) (cap := S.length) hrow (by omega) (by rw [evOf_len]; omega)
      rw [evOf_len] at s1
      have hevs : sortB keysE (evOf M S) = eventsN M S := rfl
      rw [hevs] at s2
      simp only [n38, r38, g2, g3, g4, g5, g19, g20, g21, int_lt_cast, hlt, s1, SB, Nat.reduceLT, callee, aOp, ne_eq, Nat.reduceEqDiff, aBin, aUn, if_true, if_false, reduceCtorEq, frame0, place, notTuple, Nat.reduceAdd, Nat.reduceLeDiff, resVal, dite_true, dite_false, Int.reduceEq, Int.reduceLT, Int.reduceLE]
      have hSM : siftN S = siftGo [] [] (eventsN M S) := by rw [← hM]; rfl
      generalize hEV : eventsN M S = EV at *
      have hEl : EV.length = S.length := by rw [← hEV, events_len]
      have l3 := s3.len
      have ho3 : ∀ j, j < H.length → hget G3 j = hget H j := fun j hj => by rw [s3.other j (by omega) (by simp; omega)]; exact old2 j hj
      have hft : ∀ x ∈ EV, 0 ≤ x.time ∧ x.time ≤ 1051898399 := fun x hx => by
        rw [← hEV] at hx
        obtain ⟨z, hz, rfl⟩ := events_mem.mp hx
        have hzf := hS.2 z hz
        have := time_in (M := M) hzf
        unfold FineE maxT at hzf
        simp only; omega
      have hBl := hget_alive s2
      refine Ret_rounds (S := Nat × List Ev × List Ev × List ((Int × Int × Int) × Int) × Option Addr × Option Addr × Nat × Nat) (fun s => S.length - s.1) (fun s fr G4 => s.1 ≤ S.length ∧ siftGo s.2.1 s.2.2.1 (EV.drop s.1) = siftN S ∧ s.2.1.length ≤ s.1 ∧ s.2.2.1.length ≤ s.1 ∧
        fr 2 = .slice s.2.2.2.2.1 s.2.1.length s.2.2.2.2.2.2.1 ∧ fr 3 = .slice s.2.2.2.2.2.1 s.2.2.1.length s.2.2.2.2.2.2.2 ∧ fr 8 = .map (some G3.length) ∧ fr 37 = .slice (some ⟨G.length, 0, none⟩) S.length S.length ∧ fr 38 = .int .i64 (S.length : Int) ∧ fr 39 = .int .i64 (s.1 : Int) ∧
        FSt H EV G.length G3.length s.2.1 s.2.2.1 s.2.2.2.1 s.2.2.2.2.1 s.2.2.2.2.2.1 s.2.2.2.2.2.2.1 s.2.2.2.2.2.2.2 G4) (0, [], [], [], none, none, 0, 0)
        ⟨Nat.zero_le _, by rw [List.drop_zero]; exact hSM.symm, Nat.le_refl _, Nat.le_refl _, (by simp only [g2, List.length_nil, FB, Nat.reduceEqDiff]), (by simp only [g3, List.length_nil, FB, Nat.reduceEqDiff]), (by simp only [FB, Nat.reduceEqDiff]), (by simp only [FB, Nat.reduceEqDiff]), (by simp only [FB, Nat.reduceEqDiff]), by rfl, ⟨by rw [hget_new0]; rfl, by rw [hget_old hBl]; exact s2, .inl ⟨rfl, rfl, rfl⟩, .inl ⟨rfl, rfl, rfl⟩, fun a b h => (by cases h), fun j hj => by rw [hget_old (by omega)]; exact ho3 j hj, by simp, fun e => rfl, fun x hx => (List.not_mem_nil hx).elim⟩⟩ ?_
      rintro ⟨i, kr, tr, es, kp, tp, kc, tc⟩ fr4 G4 ⟨hi4, hsf, hkl, htl, f2, f3, f8, f37, f38, f39, st⟩ hM4
      simp only at hi4 hsf hkl htl f2 f3 f39 st
      rw [Ret_code l38_1.eq_1]
      refine Ret_pad ?_
      by_cases hlt4 : i < S.length
      · have hiE : i < EV.length := by omega
        have hse4 : Sl G4 encE 7 (some ⟨G.length, 0, none⟩) EV := Sl.row encE_len st.ev
        have hld4 := fun X => (hse4.app X).loadCells encE_len hiE
        have hidx4 : ∀ (c : Nat) (k : IntKind) (H1 : Heap), idxK 7 (.slice (some ⟨G.length, 0, none⟩) S.length c) (.int k (i : Int)) H1 = some (.pointer (some (elt (some ⟨G.length, 0, none⟩) 7 i)), H1) := fun c k H1 => by
          rw [← hEl]; exact hse4.idx hiE
        have hw4 : IntKind.i64.wrap ((i : Int) + 1) = ((i + 1 : Nat) : Int) := wrap_nat (by omega)
        have heE : gt EV i ∈ EV := gt_mem hiE
        have hdr : EV.drop i = gt EV i :: EV.drop (i + 1) := by rw [List.drop_eq_getElem_cons hiE, gt_lt hiE]
        rw [hdr] at hsf
        have hrel := st.rel (gt EV i)
        generalize hex : gt EV i = e at *
        have hk : keyOk (.ints [.i64, .i64, .u8]) (.agg #[.int .i64 e.item, .int .i64 e.place, .int .u8 e.kind]) = true := kS_ok (k := sight e)
        have hfk := findKey_enc (vv := vI) kS_eq (sight e) es 0
        have hkey : kS (sight e) = .agg #[.int .i64 e.item, .int .i64 e.place, .int .u8 e.kind] := rfl
        rw [hkey] at hfk
        have hget' := fk_get (sight e) es 0
        have gmX : ∀ X, hget (G4 ++ X) G3.length = .map (encM kS vI es) := fun X => by rw [hget_old st.len]; exact st.mp
        have hlG4 : lim ≤ G4.length := by have := st.len; omega
        have hlG3 : lim ≤ G3.length := by omega
        have KEPT : ∀ (em : List (Value × Value)), em = encM kS vI (putK (sight e) e.time es) →
            ∃ G1, (∀ X : Heap, (G4 ++ X).set G3.length (.map em) = G1 ++ X) ∧ (∀ Y, hget (G1 ++ .cells false (encE e) :: Y) G4.length = .cells false (encE e)) ∧ ∃ G', aAppend lim none 7 56 false (.slice kp kr.length kc) (.slice (some ⟨G1.length + 2, 0, none⟩) 1 1) (G1 ++ [.cells false (encE e), .cells false [.int .i64 e.item, .int .i64 e.place, .int .u8 e.kind], .cells false (encE e)]) = some (.slice (some ⟨G1.length + 3, 0, none⟩) (kr.length + 1) (loose 7), G' ++ []) ∧
              FSt H EV G.length G3.length (e :: kr) tr (putK (sight e) e.time es) (some ⟨G1.length + 3, 0, none⟩) tp (loose 7) tc (G' ++ []) := by
          intro em hem
          subst hem
          obtain ⟨G1, e1, G', e2, st', l1⟩ := st.kept hl (by omega) (by omega) e heE (by omega) (.cells false (encE e)) (.cells false [.int .i64 e.item, .int .i64 e.place, .int .u8 e.kind])
          exact ⟨G1, e1, fun Y => by rw [← l1]; exact hget_new0, G', e2, st'⟩
        obtain ⟨GT, e2T, stT⟩ := st.twice hl (by omega) (by omega) e (by omega) (.cells false (encE e)) (.cells false [.int .i64 e.item, .int .i64 e.place, .int .u8 e.kind])
        cases hc : fk (sight e) es 0 with
        | none =>
          rw [hc] at hfk hget'
          simp only [Option.map_none] at hfk hget'
          have hput := fk_none (v' := e.time) hc
          have htw : twiceB e kr = false := by
            unfold twiceB
            rw [← hget'] at hrel
            cases hq : lastK e kr with
            | none => rfl
            | some z => rw [hq] at hrel; cases hrel
          obtain ⟨G1, e1, R1, G', e2, fin⟩ := KEPT (encM kS vI es ++ [(.agg #[.int .i64 e.item, .int .i64 e.place, .int .u8 e.kind], .int .i64 e.time)]) (by rw [← hput]; simp only [encM, List.map_append, List.map_cons, List.map_nil]; rfl)
          simp only [n38, r38, f2, f3, f8, f37, f38, f39, int_lt_cast, hlt4, hidx4, hld4, hlG4, hlG3, encE_len, encE_0, encE_1, encE_2, encE_3, encE_4, encE_5, encE_6, take_all, setAll_full, hw4, gmX, hk, hfk, e1, R1, e2, SB, Nat.reduceLT, callee, aOp, ne_eq, Nat.reduceEqDiff, aBin, aUn, if_true, if_false, reduceCtorEq, frame0, place, notTuple, Nat.reduceAdd, Nat.reduceLeDiff, resVal, dite_true, dite_false, Int.reduceEq, Int.reduceLT, Int.reduceLE]
          exact hM4 (i + 1, e :: kr, tr, putK (sight e) e.time es, some ⟨G1.length + 3, 0, none⟩, tp, loose 7, tc) _ _ ⟨by simp only; omega, by rw [← hsf, siftGo, htw]; rfl, by simp only [List.length_cons]; omega, by simp only; omega, (by simp only [List.length_cons, FB, Nat.reduceEqDiff]), (by simp only [f3, FB, Nat.reduceEqDiff]), (by simp only [f8, FB, Nat.reduceEqDiff]), (by simp only [f37, FB, Nat.reduceEqDiff]), (by simp only [f38, FB, Nat.reduceEqDiff]), (by simp only [FB, Nat.reduceEqDiff]), fin⟩ (by simp only; omega)
        | some x =>
          obtain ⟨j, v⟩ := x
          rw [hc] at hfk hget'
          simp only [Option.map_some] at hfk hget'
          have hput := (fk_some (v' := e.time) hc).2.2
          rw [Nat.sub_zero] at hput
          rw [← hget'] at hrel
          cases hq : lastK e kr with
          | none => rw [hq] at hrel; cases hrel
          | some z =>
          rw [hq] at hrel
          have hvz : v = z.time := by simpa using hrel
          have hz := hft z (st.sub z (lastK_some hq).1)
          have hte := hft e heE
          have hvi : vI v = .int .i64 z.time := by rw [hvz]; rfl
          rw [hvi] at hfk
          have wd : IntKind.i64.wrap (e.time - z.time) = e.time - z.time := wrap_id (by omega) (by omega)
          by_cases hd : e.time - z.time ≤ 10
          · have htw : twiceB e kr = true := twiceB_true.mpr ⟨z, hq, hd⟩
            simp only [n38, r38, f2, f3, f8, f37, f38, f39, int_lt_cast, hlt4, hidx4, hld4, hlG4, hlG3, encE_len, encE_0, encE_1, encE_2, encE_3, encE_4, encE_5, encE_6, take_all, setAll_full, hw4, gmX, hk, hfk, wd, eq_true hd, e2T, SB, Nat.reduceLT, callee, aOp, ne_eq, Nat.reduceEqDiff, aBin, aUn, if_true, if_false, reduceCtorEq, frame0, place, notTuple, Nat.reduceAdd, Nat.reduceLeDiff, resVal, dite_true, dite_false, Int.reduceEq, Int.reduceLT, Int.reduceLE]
            exact hM4 (i + 1, kr, e :: tr, es, kp, some ⟨G4.length + 3, 0, none⟩, kc, loose 7) _ _ ⟨by simp only; omega, by rw [← hsf, siftGo, htw]; rfl, by simp only; omega, by simp only [List.length_cons]; omega, (by simp only [f2, FB, Nat.reduceEqDiff]), (by simp only [List.length_cons, FB, Nat.reduceEqDiff]), (by simp only [f8, FB, Nat.reduceEqDiff]), (by simp only [f37, FB, Nat.reduceEqDiff]), (by simp only [f38, FB, Nat.reduceEqDiff]), (by simp only [FB, Nat.reduceEqDiff]), stT⟩ (by simp only; omega)
          · have htw : twiceB e kr = false := by unfold twiceB; rw [hq]; exact decide_eq_false hd
            obtain ⟨G1, e1, R1, G', e2, fin⟩ := KEPT ((encM kS vI es).set j (.agg #[.int .i64 e.item, .int .i64 e.place, .int .u8 e.kind], .int .i64 e.time)) (by rw [← hput]; simp only [encM, List.map_set]; rfl)
            simp only [n38, r38, f2, f3, f8, f37, f38, f39, int_lt_cast, hlt4, hidx4, hld4, hlG4, hlG3, encE_len, encE_0, encE_1, encE_2, encE_3, encE_4, encE_5, encE_6, take_all, setAll_full, hw4, gmX, hk, hfk, wd, eq_false hd, e1, R1, e2, SB, Nat.reduceLT, callee, aOp, ne_eq, Nat.reduceEqDiff, aBin, aUn, if_true, if_false, reduceCtorEq, frame0, place, notTuple, Nat.reduceAdd, Nat.reduceLeDiff, resVal, dite_true, dite_false, Int.reduceEq, Int.reduceLT, Int.reduceLE]
            exact hM4 (i + 1, e :: kr, tr, putK (sight e) e.time es, some ⟨G1.length + 3, 0, none⟩, tp, loose 7, tc) _ _ ⟨by simp only; omega, by rw [← hsf, siftGo, htw]; rfl, by simp only [List.length_cons]; omega, by simp only; omega, (by simp only [List.length_cons, FB, Nat.reduceEqDiff]), (by simp only [f3, FB, Nat.reduceEqDiff]), (by simp only [f8, FB, Nat.reduceEqDiff]), (by simp only [f37, FB, Nat.reduceEqDiff]), (by simp only [f38, FB, Nat.reduceEqDiff]), (by simp only [FB, Nat.reduceEqDiff]), fin⟩ (by simp only; omega)
      · obtain rfl : i = S.length := by omega
        rw [← hEl, List.drop_length] at hsf
        have hk1 : kr.reverse = (siftN S).1 := congrArg Prod.fst hsf
        have ht1 : tr.reverse = (siftN S).2 := congrArg Prod.snd hsf
        have ko := st.ko
        have to := st.to
        have lk : kr.length = (siftN S).1.length := by rw [← hk1, List.length_reverse]
        have lt : tr.length = (siftN S).2.length := by rw [← ht1, List.length_reverse]
        rw [hk1] at ko
        rw [ht1] at to
        rw [lk] at f2
        rw [lt] at f3
        simp only [n38, r38, f2, f3, f38, f39, int_lt_cast, hlt4, SB, Nat.reduceLT, callee, aOp, ne_eq, Nat.reduceEqDiff, aBin, aUn, if_true, if_false, reduceCtorEq, frame0, place, notTuple, Nat.reduceAdd, Nat.reduceLeDiff, resVal, dite_true, dite_false, Int.reduceEq, Int.reduceLT, Int.reduceLE]
        refine hQ G4 kp kc tp tc (ko.le (by omega)) (to.le (by omega)) st.ne ⟨by have := st.len; omega, fun j hj _ => st.old j hj⟩
theorem rightL_f [OB] {mp : Bool} {lim c : Nat} {p : Option Addr} {S : List Ev} {H : Heap} {Q : Value → Heap → Prop} (hs : Sl H encN 6 p S) (hn : S.length < 2 ^ 63) :
    CallR Ef mp lim 25 [.slice p S.length c] H Q = Q (.bool (decide (RightL S))) H := CallR.eqF (by rw [rightL_ok hs hn]; exact ⟨rfl, rfl⟩)
theorem Time_f [OB] {mp : Bool} {lim c : Nat} {p : Option Addr} {M : List Mk} {s : Ev} {H : Heap} {Q : Value → Heap → Prop} (hs : Sl H encK 3 p M) (hc : CapOk 3 c M.length) (hn : M.length < 2 ^ 40) :
    CallR Ef mp lim 12 [.slice p M.length c, .agg (encN s).toArray] H Q = Q (if FineE s ∧ MarksOk M then .tuple #[.int .i64 (timeN M s), .int .i64 0] else .tuple #[.int .i64 0, .int .i64 2]) H := CallR.eqF (by rw [Time_ok hs hc hn]; exact ⟨rfl, rfl⟩)
theorem Marks_ok [OB] {lim c : Nat} {p : Option Addr} {S : List Ev} {H : Heap} {Q : Value → Heap → Prop} (hs : Sl H encN 6 p S) (hS : RightL S) (hl : lim ≤ H.length)
    (hQ : ∀ G p' c', Sl G encK 3 p' (gatherN S) → CapOk 3 c' (gatherN S).length → Chg [] H G → Q (.tuple #[.slice p' (gatherN S).length c', .int .i64 0]) (G ++ [])) :
    CallR Ef false lim 20 [.slice p S.length c] H Q := by
  refine runsF (by decide) e20 rfl ?_
  rw [b20, c20]
  have hr := fun (X : Heap) (mp : Bool) (lim : Nat) (Q : Value → Heap → Prop) => rightL_f (mp := mp) (lim := lim) (Q := Q) (c := c) (hs.app X) (by have := hS.1; omega)
  simp only [n20, r20, hr, decide_eq_true hS, SB, Nat.reduceLT, callee, aOp, ne_eq, Nat.reduceEqDiff, aBin, aUn, if_true, if_false, reduceCtorEq, frame0, place, notTuple, Nat.reduceAdd, Nat.reduceLeDiff, resVal, dite_true, dite_false, Int.reduceEq, Int.reduceLT, Int.reduceLE]
  rw [List.append_nil]
  refine gather_ok hs hS hl fun G p' c' h1 h2 h3 => ?_
  simp only [n20, r20, SB, Nat.reduceLT, callee, aOp, ne_eq, Nat.reduceEqDiff, aBin, aUn, if_true, if_false, reduceCtorEq, frame0, place, notTuple, Nat.reduceAdd, Nat.reduceLeDiff, resVal, dite_true, dite_false, Int.reduceEq, Int.reduceLT, Int.reduceLE]
  exact hQ G p' c' h1 h2 h3
theorem Order_ok [OB] {lim c : Nat} {p : Option Addr} {S : List Ev} {H : Heap} {Q : Value → Heap → Prop} (hs : Sl H encN 6 p S) (hS : RightL S) (hl : lim ≤ H.length)
    (hQ : ∀ G kp kc, Own H.length G encE 7 kp kc (siftN S).1 → Chg [] H G → Q (.tuple #[.slice kp (siftN S).1.length kc, .int .i64 0]) (G ++ [])) :
    CallR Ef false lim 19 [.slice p S.length c] H Q := by
  refine runsF (by decide) e19 rfl ?_
  rw [b19, c19]
  have hr := fun (X : Heap) (mp : Bool) (lim : Nat) (Q : Value → Heap → Prop) => rightL_f (mp := mp) (lim := lim) (Q := Q) (c := c) (hs.app X) (by have := hS.1; omega)
  simp only [n19, r19, hr, decide_eq_true hS, SB, Nat.reduceLT, callee, aOp, ne_eq, Nat.reduceEqDiff, aBin, aUn, if_true, if_false, reduceCtorEq, frame0, place, notTuple, Nat.reduceAdd, Nat.reduceLeDiff, resVal, dite_true, dite_false, Int.reduceEq, Int.reduceLT, Int.reduceLE]
  rw [List.append_nil]
  refine sift_ok hs hS hl fun G kp kc tp tc h1 h2 h3 h4 => ?_
  simp only [n19, r19, SB, Nat.reduceLT, callee, aOp, ne_eq, Nat.reduceEqDiff, aBin, aUn, if_true, if_false, reduceCtorEq, frame0, place, notTuple, Nat.reduceAdd, Nat.reduceLeDiff, resVal, dite_true, dite_false, Int.reduceEq, Int.reduceLT, Int.reduceLE]
  exact hQ G kp kc h1 h4
theorem one_ok [OB] {mp : Bool} {lim : Nat} {a b d : Int} {H : Heap} {Q : Value → Heap → Prop} : CallR E mp lim 22 [.int .i64 a, .int .i64 b, .int .i64 d] H Q = Q (.agg (encN (oneS a b d)).toArray) H := by
  refine pc (by decide) e22 rfl rfl ?_
  rw [b22, c22]
  simp only [n22, r22, SB, Nat.reduceLT, callee, aOp, ne_eq, Nat.reduceEqDiff, aBin, aUn, if_true, if_false, reduceCtorEq, frame0, place, notTuple, Nat.reduceAdd, Nat.reduceLeDiff, resVal, dite_true, dite_false, Int.reduceEq, Int.reduceLT, Int.reduceLE]
  rfl
theorem one_f [OB] {mp : Bool} {lim : Nat} {a b d : Int} {H : Heap} {Q : Value → Heap → Prop} : CallR Ef mp lim 22 [.int .i64 a, .int .i64 b, .int .i64 d] H Q = Q (.agg (encN (oneS a b d)).toArray) H := CallR.eqF (by rw [one_ok]; exact ⟨rfl, rfl⟩)
def L1 : List Ev := [oneS 1 60 400, oneS 1 50 150, oneS 1 2000 2140]
def L2 : List Ev := [oneS 1 160 160, oneS 2 150 150]
def L3 : List Ev := [oneS 1 161 161, oneS 2 150 150]
def M1 : List Mk := [⟨1, 50, 100⟩, ⟨1, 2000, 140⟩]
theorem L1_right : RightL L1 := by decide
theorem L2_right : RightL L2 := by decide
theorem L3_right : RightL L3 := by decide
theorem M1_ok : MarksOk M1 := by unfold MarksOk M1; decide
theorem L1_marks : gatherN L1 = M1 := ex_1
theorem L1_kept : (siftN L1).1 = [⟨7, 3, 1, 1, 50, 150, 150⟩, ⟨7, 3, 1, 1, 2000, 2140, 2140⟩] := by decide
theorem L2_kept : (siftN L2).1 = [⟨7, 3, 2, 1, 150, 150, 150⟩] := by decide
theorem L3_kept : (siftN L3).1 = [⟨7, 3, 2, 1, 150, 150, 150⟩, ⟨7, 3, 1, 1, 161, 161, 161⟩] := by decide
theorem idx0 {α : Type} {H : Heap} {enc : α → List Value} {e n c : Nat} {p : Option Addr} {l : List α} (hs : Sl H enc e p l) (hl : l.length = n) (h : 0 < n) (k : IntKind) (H1 : Heap) : idxK e (.slice p n c) (.int k 0) H1 = some (.pointer (some (elt p e 0)), H1) := by
  subst hl
  have := hs.idx (c := c) (k := k) (H1 := H1) h
  exact this
theorem idx1 {α : Type} {H : Heap} {enc : α → List Value} {e n c : Nat} {p : Option Addr} {l : List α} (hs : Sl H enc e p l) (hl : l.length = n) (h : 1 < n) (k : IntKind) (H1 : Heap) : idxK e (.slice p n c) (.int k 1) H1 = some (.pointer (some (elt p e 1)), H1) := by
  subst hl
  have := hs.idx (c := c) (k := k) (H1 := H1) h
  exact this
theorem awake_go [OB] {lim : Nat} {H : Heap} {Q : Value → Heap → Prop} (hoff : OB.on 11 = false) : CallR Ef false lim 11 [] H Q = Q (.bool true) H := by
  have ho : Ef.orc 11 [] = none := by simp [Ef, orc, hoff]
  refine CallR_pure (E := Ef) ho e11 rfl rfl (Ret_pad ?_)
  rw [b11, c11]
  simp only [n11, r11, one_f, encN, oneS, SB, Nat.reduceLT, callee, aOp, ne_eq, Nat.reduceEqDiff, aBin, aUn, if_true, if_false, reduceCtorEq, frame0, place, notTuple, Nat.reduceAdd, Nat.reduceLeDiff, resVal, dite_true, dite_false, Int.reduceEq, Int.reduceLT, Int.reduceLE]
  have sl1 : ∀ (G : Heap) (b : Nat), hget G b = .cells false (L1.flatMap encN) → Sl G encN 6 (some ⟨b, 0, none⟩) L1 := fun G b h => Sl.row encN_len h
  have hs1 : Sl (H ++ [.cells false (L1.flatMap encN)]) encN 6 (some ⟨H.length, 0, none⟩) L1 := sl1 _ _ (by rw [hget_new0]; rfl)
  refine Marks_ok (S := L1) hs1 L1_right (by simp) fun G1 p1 c1 sm1 cm1 hC1 => ?_
  have hlen1 := hC1.len
  rw [L1_marks] at sm1 cm1 ⊢
  have hs2 := hC1.sl hs1 (fun a _ _ h => (by cases h))
  have fA : FineE (oneS 1 60 400) := by decide
  have fB : FineE (oneS 1 1025 5000) := by decide
  have fC : FineE (oneS 2 60 400) := by decide
  have tA := fun X (mp : Bool) (lim : Nat) (Q : Value → Heap → Prop) => Time_f (mp := mp) (lim := lim) (Q := Q) (s := oneS 1 60 400) (sm1.app X) cm1 (by decide)
  have tB := fun X (mp : Bool) (lim : Nat) (Q : Value → Heap → Prop) => Time_f (mp := mp) (lim := lim) (Q := Q) (s := oneS 1 1025 5000) (sm1.app X) cm1 (by decide)
  have tC := fun X (mp : Bool) (lim : Nat) (Q : Value → Heap → Prop) => Time_f (mp := mp) (lim := lim) (Q := Q) (s := oneS 2 60 400) (sm1.app X) cm1 (by decide)
  have vA : timeN M1 (oneS 1 60 400) = 160 := ex_2
  have vB : timeN M1 (oneS 1 1025 5000) = 1145 := ex_3
  have vC : timeN M1 (oneS 2 60 400) = 60 := ex_4
  simp only [if_pos (And.intro fA M1_ok), vA] at tA
  simp only [if_pos (And.intro fB M1_ok), vB] at tB
  simp only [if_pos (And.intro fC M1_ok), vC] at tC
  simp only [n11, r11, one_f, tA, tB, tC, SB, Nat.reduceLT, callee, aOp, ne_eq, Nat.reduceEqDiff, aBin, aUn, if_true, if_false, reduceCtorEq, frame0, place, notTuple, Nat.reduceAdd, Nat.reduceLeDiff, resVal, dite_true, dite_false, Int.reduceEq, Int.reduceLT, Int.reduceLE]
  rw [List.append_nil]
  refine Order_ok (S := L1) hs2 L1_right (by simp at hlen1; omega) fun G2 p2 c2 hO2 hC2 => ?_
  have hl1 : (siftN L1).1.length = 2 := by rw [L1_kept]; rfl
  have sk1 := hO2.sl encE_len
  have g10 : gt (siftN L1).1 0 = ⟨7, 3, 1, 1, 50, 150, 150⟩ := by rw [L1_kept]; rfl
  have g11 : gt (siftN L1).1 1 = ⟨7, 3, 1, 1, 2000, 2140, 2140⟩ := by rw [L1_kept]; rfl
  have sm2 := hC2.sl sm1 (fun a _ _ h => (by cases h))
  have lM : M1.length = 2 := rfl
  have m0 := fun X => (sm2.app X).loadCells encK_len (i := 0) (by decide)
  have m1 := fun X => (sm2.app X).loadCells encK_len (i := 1) (by decide)
  have gM0 : gt M1 0 = ⟨1, 50, 100⟩ := rfl
  have gM1 : gt M1 1 = ⟨1, 2000, 140⟩ := rfl
  rw [gM0] at m0
  rw [gM1] at m1
  have q0 := fun X => (sk1.app X).loadCell encE_len (i := 0) (j := 6) (by omega) (by decide)
  have q1 := fun X => (sk1.app X).loadCell encE_len (i := 1) (j := 6) (by omega) (by decide)
  rw [g10] at q0
  rw [g11] at q1
  have im0 := fun (c : Nat) => idx0 (c := c) sm2 lM (by decide)
  have im1 := fun (c : Nat) => idx1 (c := c) sm2 lM (by decide)
  have ik0 := fun (c : Nat) => idx0 (c := c) sk1 hl1 (by decide)
  have ik1 := fun (c : Nat) => idx1 (c := c) sk1 hl1 (by decide)
  have eqA : aEq (.agg [.int .i64, .int .i64, .int .i64]) (.agg (encK ⟨1, 50, 100⟩).toArray) (.agg #[.int .i64 1, .int .i64 50, .int .i64 100]) = some true := rfl
  have eqB : aEq (.agg [.int .i64, .int .i64, .int .i64]) (.agg (encK ⟨1, 2000, 140⟩).toArray) (.agg #[.int .i64 1, .int .i64 2000, .int .i64 140]) = some true := rfl
  have w0 : IntKind.i64.wrap 0 = 0 := by decide
  have wz : IntKind.i64.wrap (0 + 0) = 0 := by decide
  have c2' : ((2 : Nat) : Int) = 2 := rfl
  rw [hl1]
  simp only [n11, r11, one_f, encN, oneS, lM, im0, im1, ik0, ik1, m0, m1, q0, q1, encE_len, encE_0, encE_1, encE_2, encE_3, encE_4, encE_5, encE_6, eqA, eqB, w0, wz, c2', Int.add_zero, SB, Nat.reduceLT, callee, aOp, ne_eq, Nat.reduceEqDiff, aBin, aUn, if_true, if_false, reduceCtorEq, frame0, place, notTuple, Nat.reduceAdd, Nat.reduceLeDiff, resVal, dite_true, dite_false, Int.reduceEq, Int.reduceLT, Int.reduceLE]
  have sl2 : ∀ (S : List Ev) (G : Heap) (b : Nat), hget G b = .cells false (S.flatMap encN) → Sl G encN 6 (some ⟨b, 0, none⟩) S := fun S G b h => Sl.row encN_len h
  have hlen2 := hC2.len
  simp only [List.length_append, List.length_cons, List.length_nil] at hlen1
  refine Order_ok (S := L2) (sl2 L2 (G2 ++ [.cells false (L2.flatMap encN)]) G2.length (by rw [hget_new0]; rfl)) L2_right (by simp; omega) fun G3 p3 c3 hO3 hC3 => ?_
  have hlen3 := hC3.len
  simp only [List.length_append, List.length_cons, List.length_nil] at hlen3
  have hl2 : (siftN L2).1.length = 1 := by rw [L2_kept]; rfl
  have sk2 := hO3.sl encE_len
  have g20 : gt (siftN L2).1 0 = ⟨7, 3, 2, 1, 150, 150, 150⟩ := by rw [L2_kept]; rfl
  rw [hl2]
  simp only [n11, r11, one_f, encN, oneS, SB, Nat.reduceLT, callee, aOp, ne_eq, Nat.reduceEqDiff, aBin, aUn, if_true, if_false, reduceCtorEq, frame0, place, notTuple, Nat.reduceAdd, Nat.reduceLeDiff, resVal, dite_true, dite_false, Int.reduceEq, Int.reduceLT, Int.reduceLE]
  refine Order_ok (S := L3) (sl2 L3 (G3 ++ [.cells false (L3.flatMap encN)]) G3.length (by rw [hget_new0]; rfl)) L3_right (by simp; omega) fun G4 p4 c4 hO4 hC4 => ?_
  have hl3 : (siftN L3).1.length = 2 := by rw [L3_kept]; rfl
  have sk3 := hC4.sl (sk2.app _) (fun a _ _ h => (by cases h))
  have r0 := fun X => (sk3.app X).loadCell encE_len (i := 0) (j := 6) (by omega) (by decide)
  rw [g20] at r0
  have ir0 := fun (c : Nat) => idx0 (c := c) sk3 hl2 (by decide)
  have c1' : ((1 : Nat) : Int) = 1 := rfl
  rw [hl3]
  simp only [n11, r11, ir0, r0, encE_len, encE_0, encE_1, encE_2, encE_3, encE_4, encE_5, encE_6, w0, wz, c1', c2', Int.add_zero, SB, Nat.reduceLT, callee, aOp, ne_eq, Nat.reduceEqDiff, aBin, aUn, if_true, if_false, reduceCtorEq, frame0, place, notTuple, Nat.reduceAdd, Nat.reduceLeDiff, resVal, dite_true, dite_false, Int.reduceEq, Int.reduceLT, Int.reduceLE]
theorem awake_on [OB] (h : OB.on 11 = true) {mp : Bool} {lim : Nat} {H : Heap} {Q : Value → Heap → Prop} : CallR E mp lim 11 [] H Q = Q (.bool true) H :=
  CallR_orc (E := E) (by simp [E, orc, h]) rfl rfl
theorem ScanDrift_ok [OB] (hA : OB.on 11 = true) {mp : Bool} {lim : Nat} {A D f g a b : Int} {H : Heap} {Q : Value → Heap → Prop} (hA0 : 0 ≤ A ∧ A ≤ 65535) (hD : 0 ≤ D ∧ D ≤ 65535) (hf : -32768 ≤ f ∧ f ≤ 32767) (hg : -32768 ≤ g ∧ g ≤ 32767) (ha : 0 ≤ a ∧ a ≤ 65535) (hb : 0 ≤ b ∧ b ≤ 65535) :
    CallR E mp lim 7 [.int .u16 A, .int .u16 D, .int .i16 f, .int .i16 g, .int .u16 a, .int .u16 b] H Q = Q (.bool true) H := by
  refine pc (by decide) e7 rfl rfl ?_
  rw [b7, c7]
  have wi : ∀ {x : Int}, -2 ^ 40 ≤ x → x ≤ 2 ^ 40 → IntKind.i64.wrap x = x := fun h1 h2 => wrap_id (by omega) (by omega)
  obtain ⟨at', hat⟩ : ∃ at', at' = 40000 + A := ⟨_, rfl⟩
  obtain ⟨w, hw⟩ : ∃ w, w = D + 1 := ⟨_, rfl⟩
  obtain ⟨o, hoo⟩ : ∃ o, o = if g - f < -w then f - w else g := ⟨_, rfl⟩
  have v1 := wi (x := A) (by omega) (by omega)
  have v2 : IntKind.i64.wrap (40000 + A) = at' := (wi (by omega) (by omega)).trans hat.symm
  have v3 := wi (x := f) (by omega) (by omega)
  have v4 := wi (x := at' + 1) (by omega) (by omega)
  have v5 := wi (x := D) (by omega) (by omega)
  have v6 : IntKind.i64.wrap (at' + 1 + D) = at' + w := (wi (by omega) (by omega)).trans (by omega)
  have v7 := wi (x := g) (by omega) (by omega)
  have v8 := wi (x := g - f) (by omega) (by omega)
  have v9 : IntKind.i64.wrap (at' - (at' + w)) = -w := (wi (by omega) (by omega)).trans (by omega)
  have v10 := wi (x := f + at') (by omega) (by omega)
  have v11 : IntKind.i64.wrap (f + at' - (at' + w)) = f - w := (wi (by omega) (by omega)).trans (by omega)
  by_cases c2 : o < -32768
  · by_cases c1 : g - f < -w
    · rw [if_pos c1] at hoo
      rw [hoo] at c2
      simp only [n7, r7, v1, v2, v3, v4, v5, v6, v7, v8, v9, v10, v11, eq_true c1, eq_true c2, awake_on hA, SB, Nat.reduceLT, callee, aOp, ne_eq, Nat.reduceEqDiff, aBin, aUn, if_true, if_false, reduceCtorEq, frame0, place, notTuple, Nat.reduceAdd, Nat.reduceLeDiff, resVal, dite_true, dite_false, Int.reduceEq, Int.reduceLT, Int.reduceLE]
    · rw [if_neg c1] at hoo
      omega
  have two : Two at' w f o := by
    refine ⟨by omega, by omega, by omega, by omega, by omega, by omega, by omega, ?_, ?_⟩
    · by_cases c1 : g - f < -w
      · rw [if_pos c1] at hoo; omega
      · rw [if_neg c1] at hoo; omega
    · by_cases c1 : g - f < -w
      · rw [if_pos c1] at hoo; omega
      · rw [if_neg c1] at hoo; omega
  have w1 := two.w1
  have w2 := two.w2
  have o2 := two.o2
  have u1 : IntKind.i64.wrap (at' + w - at') = w := (wi (by omega) (by omega)).trans (by omega)
  have u2 := wi (x := w + 1) (by omega) (by omega)
  have u3 : (w + 1 = 0) = False := eq_false (by omega)
  have u4 := wi (x := a) (by omega) (by omega)
  have u5 := wi (x := b) (by omega) (by omega)
  have ra0 := Int.tmod_nonneg (w + 1) ha.1
  have ra1 := Int.tmod_lt_of_pos a (show 0 < w + 1 by omega)
  have rb0 := Int.tmod_nonneg (w + 1) hb.1
  have rb1 := Int.tmod_lt_of_pos b (show 0 < w + 1 by omega)
  obtain ⟨ra, hra⟩ : ∃ ra, ra = Int.tmod a (w + 1) := ⟨_, rfl⟩
  obtain ⟨rb, hrb⟩ : ∃ rb, rb = Int.tmod b (w + 1) := ⟨_, rfl⟩
  rw [← hra] at ra0 ra1
  rw [← hrb] at rb0 rb1
  have u6 := wi (x := at' + ra) (by omega) (by omega)
  have u7 := wi (x := at' + rb) (by omega) (by omega)
  have mn : ∀ x y : Int, aMinMaxAll false (.int .i64 x) [.int .i64 y] = some (.int .i64 (min x y)) := fun x y => by simp only [aMinMaxAll, aMinMax]; grind
  have mx : ∀ x y : Int, aMinMaxAll true (.int .i64 x) [.int .i64 y] = some (.int .i64 (max x y)) := fun x y => by simp only [aMinMaxAll, aMinMax]; grind
  obtain ⟨x, hx⟩ : ∃ x, x = min (at' + ra) (at' + rb) := ⟨_, rfl⟩
  obtain ⟨y, hy⟩ : ∃ y, y = max (at' + ra) (at' + rb) := ⟨_, rfl⟩
  have mnx := mn (at' + ra) (at' + rb)
  have mxy := mx (at' + ra) (at' + rb)
  rw [← hx] at mnx
  rw [← hy] at mxy
  have hsl : Sl (H ++ [.cells false [.int .i64 1, .int .i64 at', .int .i64 f], .cells false [.int .i64 1, .int .i64 (at' + w), .int .i64 o], .cells false [.int .i64 1, .int .i64 at', .int .i64 f, .int .i64 1, .int .i64 (at' + w), .int .i64 o]]) encK 3 (some ⟨H.length + 2, 0, none⟩) (twoM at' w f o) := Sl.row encK_len (ro := false) (by rw [hget_new]; rfl)
  have tm : ∀ z, at' ≤ z → z ≤ at' + w → ∀ (mp : Bool) (lim : Nat) (Q : Value → Heap → Prop), CallR E mp lim 12 [.slice (some ⟨H.length + 2, 0, none⟩) 2 2, .agg (encN (oneS 1 z 1000000)).toArray] (H ++ [.cells false [.int .i64 1, .int .i64 at', .int .i64 f], .cells false [.int .i64 1, .int .i64 (at' + w), .int .i64 o], .cells false [.int .i64 1, .int .i64 at', .int .i64 f, .int .i64 1, .int .i64 (at' + w), .int .i64 o]]) Q = Q (.tuple #[.int .i64 (timeT at' w f o z), .int .i64 0]) _ := fun z z1 z2 mp lim Q => by
    have := Time_ok (mp := mp) (lim := lim) (Q := Q) (c := 2) (s := oneS 1 z 1000000) hsl (.inr ⟨Nat.le_refl _, by decide⟩) (show 2 < 2 ^ 40 by decide)
    rw [if_pos ⟨two_fine two z1 z2, two_ok two⟩, two_time two z1 z2] at this
    exact this
  have tx := tm x (by omega) (by omega)
  have ty := tm y (by omega) (by omega)
  have tl := tm at' (by omega) (by omega)
  have th := tm (at' + w) (by omega) (by omega)
  rw [two_low] at tl
  rw [two_high two] at th
  have hmono := two_mono two (show x ≤ y by omega)
  have hlow := two_mono two (show at' ≤ x by omega)
  have hhigh := two_mono two (show y ≤ at' + w by omega)
  rw [two_low] at hlow
  rw [two_high two] at hhigh
  have hin := two_in two (show at' ≤ x by omega) (show x ≤ at' + w by omega)
  have hdx : timeT at' w f o x - x = f + (o - f) * (x - at') / w := by unfold timeT; omega
  rw [← hdx] at hin
  have u8 := wi (x := at' + f) (by omega) (by omega)
  have u9 := wi (x := at' + w + o) (by omega) (by omega)
  have u10 := wi (x := timeT at' w f o x - x) (by omega) (by omega)
  have mfo := mn f o
  have xfo := mx f o
  have d1 : ¬ timeT at' w f o y < timeT at' w f o x := by omega
  obtain ⟨hin1, hin2⟩ := hin
  obtain ⟨mf, hmf⟩ : ∃ mf, mf = min f o := ⟨_, rfl⟩
  obtain ⟨xf, hxf⟩ : ∃ xf, xf = max f o := ⟨_, rfl⟩
  rw [← hmf] at mfo hin1
  rw [← hxf] at xfo hin2
  by_cases c1 : g - f < -w
  · rw [if_pos c1] at hoo
    rw [← hoo] at v11
    simp only [n7, r7, v1, v2, v3, v4, v5, v6, v7, v8, v9, v10, v11, eq_true c1, eq_false c2, u1, u2, u3, u4, u5, ← hra, ← hrb, u6, u7, mnx, mxy, tx, ty, tl, th, one_ok, u8, u9, u10, mfo, xfo, gt_iff_lt, ge_iff_le, d1, hin1, hin2, hlow, hhigh, awake_on hA, SB, Nat.reduceLT, callee, aOp, ne_eq, Nat.reduceEqDiff, aBin, aUn, if_true, if_false, reduceCtorEq, frame0, place, notTuple, Nat.reduceAdd, Nat.reduceLeDiff, resVal, dite_true, dite_false, Int.reduceEq, Int.reduceLT, Int.reduceLE]
  · rw [if_neg c1] at hoo
    subst hoo
    simp only [n7, r7, v1, v2, v3, v4, v5, v6, v7, v8, v9, v10, v11, eq_false c1, eq_false c2, u1, u2, u3, u4, u5, ← hra, ← hrb, u6, u7, mnx, mxy, tx, ty, tl, th, one_ok, u8, u9, u10, mfo, xfo, gt_iff_lt, ge_iff_le, d1, hin1, hin2, hlow, hhigh, awake_on hA, SB, Nat.reduceLT, callee, aOp, ne_eq, Nat.reduceEqDiff, aBin, aUn, if_true, if_false, reduceCtorEq, frame0, place, notTuple, Nat.reduceAdd, Nat.reduceLeDiff, resVal, dite_true, dite_false, Int.reduceEq, Int.reduceLT, Int.reduceLE]
end Go.Proofs.Ytkppjkkkdpcgiaa.Fn

