/-
  Joined texts, 7 of 8. A part of the claim that the last text states.
-/
import Derived.Test.YtcmhnincbkbncaaPK6
namespace Go.Proofs.Ytcmhnincbkbncaa.Fn
open Go.AM Go.AM.Sym Go.Net
set_option maxRecDepth 100000
set_option linter.unusedVariables false
set_option linter.unusedSimpArgs false
set_option maxHeartbeats 4000000

/-- The price before the i-th event. -/
def prevC (P : List Int) (L : List Leg) (es : List Ev) (i : Nat) : Int := if i = 0 then 0 else bestC P L (es.take i)
theorem prevC_step {P : List Int} {L : List Leg} {es : List Ev} {i : Nat} (hi : i < es.length) : prevC P L es i ≤ bestC P L (es.take (i + 1)) ∧ bestC P L (es.take (i + 1)) ≤ prevC P L es i + 30 ∧ bestC P L (es.take (i + 1)) ≤ 30 * (i : Int) ∧ 0 ≤ bestC P L (es.take (i + 1)) ∧ 0 ≤ prevC P L es i := by
  have l1 : (es.take (i + 1)).length = i + 1 := by rw [List.length_take]; omega
  have h1 := bestC_zero (P := P) (L := L) (es := es.take (i + 1)) (by omega)
  have h2 := bestC_nonneg (P := P) (L := L) (es := es.take (i + 1))
  have h3 := bestC_nonneg (P := P) (L := L) (es := es.take i)
  rw [l1] at h1
  unfold prevC
  split
  · rename_i h0
    subst h0
    omega
  · have := bestC_grows (P := P) (L := L) (es := es) (n := i) (by omega) hi
    omega

theorem Grows_ok [OB] {mp : Bool} {lim c c2 : Nat} {p p2 : Option Addr} {rs : List RL} {ls : List Lk} {H : Heap} {Q : Value → Heap → Prop} (hs : Sl H encR 6 p rs) (hb : ∀ x ∈ rs, ByR x) (hl : rs.length < 2 ^ 63) (hc : CapOk 6 c rs.length)
    (hs2 : Sl H encK 3 p2 ls) (hb2 : ∀ x ∈ ls, ByK x) (hl2 : ls.length < 2 ^ 63) (hc2 : CapOk 3 c2 ls.length) (hA : OB.on 38 = true) :
    CallR E mp lim 14 [.slice p rs.length c, .slice p2 ls.length c2] H Q = Q (.bool true) H := by
  refine pc (by decide) e14 rfl rfl ?_
  rw [b14, c14]
  simp only [n14, r14, SB, Nat.reduceLT, callee, aOp, ne_eq, Nat.reduceEqDiff, aBin, aUn, if_true, if_false, reduceCtorEq, frame0, place, notTuple, Nat.reduceAdd, Nat.reduceLeDiff, resVal, dite_true, dite_false, Int.reduceEq, Int.reduceLT, Int.reduceLE]
  refine Net_ok (hs.app _) hb hl hc (by simp) fun G0 pp pl cl hC0 hN0 => ?_
  replace hC0 := hC0.pre
  have hn10 : min rs.length 10 ≤ 10 := by omega
  have hnr : min rs.length 10 ≤ rs.length := by omega
  generalize min rs.length 10 = n at hN0 hn10 hnr ⊢
  have hl0 := hC0.len
  refine Ret_pad ?_
  simp only [n14, r14, SB, Nat.reduceLT, callee, aOp, ne_eq, Nat.reduceEqDiff, aBin, aUn, if_true, if_false, reduceCtorEq, frame0, place, notTuple, Nat.reduceAdd, Nat.reduceLeDiff, resVal, dite_true, dite_false, Int.reduceEq, Int.reduceLT, Int.reduceLE]
  refine Seen_ok (k := 12) ((hC0.sl hs2 (by simp)).app _) hb2 hl2 hc2 (by decide) (by simp; omega) fun G1 q cq hC1 hO1 => ?_
  replace hC1 := hC1.pre
  have hm12 : min ls.length 12 ≤ 12 := by omega
  have hml : min ls.length 12 ≤ ls.length := by omega
  generalize min ls.length 12 = m at hO1 hm12 hml ⊢
  have hl1 := hC1.len
  have hE1 : Ext G0 G1 := hC1.ext
  have hN1 := hN0.ext hE1
  have s1 := hO1.sl encE_len
  refine Ret_pad ?_
  have hHG : H.length ≤ G1.length := by omega
  simp only [n14, r14, setAll_full, hHG, netV_len, netV_0, netV_1, take_all, SB, Nat.reduceLT, callee, aOp, ne_eq, Nat.reduceEqDiff, aBin, aUn, if_true, if_false, reduceCtorEq, frame0, place, notTuple, Nat.reduceAdd, Nat.reduceLeDiff, resVal, dite_true, dite_false, Int.reduceEq, Int.reduceLT, Int.reduceLE]
  generalize hes : seenN ls m = es at s1 hO1
  have hel : es.length = m := by rw [← hes, seenN_len]
  have herr : ∀ i, i ≤ m → errI P5 (netL rs n) (es.take i) = 0 := fun i hi => by rw [← hes, seenN_take hi]; exact err_none hb hb2 hnr hn10 (by omega) (by omega)
  refine Ret_rounds (fun i => m - i) (fun i fr G => i ≤ m ∧ fr 5 = .pointer (some ⟨G1.length, 0, none⟩) ∧ fr 6 = .slice q m cq ∧ fr 7 = .int .i64 (prevC P5 (netL rs n) es i) ∧ fr 16 = .int .i64 (m : Int) ∧ fr 17 = .int .i64 (i : Int) ∧ Chg [] G1 G ∧ hget G G1.length = .cells false (netV pp 5 5 pl (netL rs n).length cl)) 0
    ⟨Nat.zero_le _, (by simp only [FB, Nat.reduceEqDiff]), (by simp only [FB, Nat.reduceEqDiff]), by rfl, (by simp only [FB, Nat.reduceEqDiff]), by rfl, Chg.refl.app, by rw [hget_new0]; rfl⟩ ?_
  intro i fr G ⟨hi, g5, g6, g7, g16, g17, hC, hB⟩ hN
  rw [Ret_code l14_1.eq_1]
  refine Ret_pad ?_
  have hlG := hC.len
  have hXB := fun X => (Ext.refl.app (X := X)).cells hB
  by_cases hlt : i < m
  case neg =>
    obtain rfl : i = m := by omega
    simp only [n14, r14, g5, g6, g7, g16, g17, hlt, awake38_on hA, SB, Nat.reduceLT, callee, aOp, ne_eq, Nat.reduceEqDiff, aBin, aUn, if_true, if_false, reduceCtorEq, frame0, place, notTuple, Nat.reduceAdd, Nat.reduceLeDiff, resVal, dite_true, dite_false, Int.reduceEq, Int.reduceLT, Int.reduceLE]
  have w1 : IntKind.i64.wrap ((i : Int) + 1) = ((i + 1 : Nat) : Int) := wrap_nat (by omega)
  obtain ⟨q1, k1, x1, s2, _, _, _⟩ := slice_cut (vlo := none) (vhi := some (.int .i64 ((i + 1 : Nat) : Int))) (lo := 0) (hi := i + 1) s1 hO1.capOk encE_len (fun cap hcap => by rw [bv_010 (by omega) (by omega), Int.toNat_natCast]) (Nat.zero_le _) (by omega) (by omega)
  rw [List.drop_zero] at s2
  simp only [Nat.sub_zero] at x1
  rw [hel] at x1
  have hHl : H.length ≤ G.length := by omega
  simp only [n14, r14, g5, g6, g7, g16, g17, hlt, w1, x1, hXB, netV_len, netV_0, netV_1, take_all, hHl, SB, Nat.reduceLT, callee, aOp, ne_eq, Nat.reduceEqDiff, aBin, aUn, if_true, if_false, reduceCtorEq, frame0, place, notTuple, Nat.reduceAdd, Nat.reduceLeDiff, resVal, dite_true, dite_false, Int.reduceEq, Int.reduceLT, Int.reduceLE]
  have l1 : (es.take (i + 1)).length = i + 1 := by rw [List.length_take]; omega
  have eS : Value.slice q1 (i + 1) k1 = .slice q1 (es.take (i + 1)).length k1 := by rw [l1]
  rw [eS]
  refine Best_ok (P := P5) (L := netL rs n) (cp := 5) (cl := cl) (hN1.ext (hC.ext.app)) (by simp; omega) ((hC.app.sl s2 (by simp))) (by rw [l1]; omega) (fun _ h => absurd (herr _ (by omega)) h) fun G2 q' cq' r cr _ hC2 hq hr => ?_
  have eb : costN P5 (netL rs n) (es.take (i + 1)) (bestN P5 (netL rs n) (es.take (i + 1))) = bestC P5 (netL rs n) (es.take (i + 1)) := rfl
  rw [eb]
  obtain ⟨b1, b2, b3, b4, b5⟩ := prevC_step (P := P5) (L := netL rs n) (es := es) (i := i) (by omega)
  have ep : prevC P5 (netL rs n) es (i + 1) = bestC P5 (netL rs n) (es.take (i + 1)) := rfl
  generalize bestC P5 (netL rs n) (es.take (i + 1)) = x at b1 b2 b3 b4 ep ⊢
  generalize prevC P5 (netL rs n) es i = y at g7 b1 b2 b5
  have hl2 := hC2.len
  simp at hl2
  obtain ⟨G3, e3, h3, m3⟩ := mut_set (show G.length < G2.length by omega) .dead
  have eu : unmaskH (List.length G) [0] (G ++ [.dead]) G2 = G3 ++ [] := by rw [unmask1, ← e3, List.append_nil]
  have m3l := m3.len
  obtain ⟨G4, e4, h4, m4⟩ := mut_set (show G.length < G3.length by omega) (.cells false [.slice none 0 0, .slice none 0 0, .int .i64 0])
  obtain ⟨G5, e5, h5, m5⟩ := mut_set (hget_alive h4) (.cells false [.slice q' (bestN P5 (netL rs n) (es.take (i + 1))).length cq', .slice r (stepsN P5 (netL rs n) (es.take (i + 1)) (bestN P5 (netL rs n) (es.take (i + 1)))).length cr, .int .i64 x])
  have X4 := fun X => (Ext.refl.app (X := X)).cells h4
  have X5 := fun X => (Ext.refl.app (X := X)).cells h5
  rw [List.append_nil, eu]
  have k1 : Chg [] G1 G5 := (((hC.trans hC2.pre).mut m3 (.inr hlG)).mut m4 (.inr hlG)).mut m5 (.inr hlG)
  have hBG := hget_alive hB
  have k2 := m5.cells (m4.cells (m3.cells (hC2.cells ((Ext.refl.app).cells hB) (by simp)) (by omega)) (by omega)) (by omega)
  have w2 : IntKind.i64.wrap (y + 30) = y + 30 := wrap_id (by omega) (by omega)
  have w3 : IntKind.i64.wrap (30 * (i : Int)) = 30 * (i : Int) := wrap_id (by omega) (by omega)
  have d1 := eq_false (show ¬ x < y by omega)
  have d2 := eq_false (show ¬ y + 30 < x by omega)
  have d3 := eq_false (show ¬ 30 * (i : Int) < x by omega)
  by_cases h0 : (i : Int) = 0
  · have hx0 := eq_true (show x = 0 by omega)
    simp only [n14, r14, g5, g6, g7, g16, g17, hHl, e4, X4, e5, X5, w1, w2, w3, d1, d2, d3, eq_true h0, hx0, SB, Nat.reduceLT, callee, aOp, ne_eq, Nat.reduceEqDiff, aBin, aUn, if_true, if_false, reduceCtorEq, frame0, place, notTuple, Nat.reduceAdd, Nat.reduceLeDiff, resVal, dite_true, dite_false, Int.reduceEq, Int.reduceLT, Int.reduceLE]
    exact hN (i + 1) _ _ ⟨by omega, (by simp only [g5, FB, Nat.reduceEqDiff]), (by simp only [g6, FB, Nat.reduceEqDiff]), by rw [ep]; rfl, (by simp only [g16, FB, Nat.reduceEqDiff]), by rfl, k1.app, (Ext.refl.app).cells k2⟩ (by omega)
  · simp only [n14, r14, g5, g6, g7, g16, g17, hHl, e4, X4, e5, X5, w1, w2, w3, d1, d2, d3, eq_false h0, SB, Nat.reduceLT, callee, aOp, ne_eq, Nat.reduceEqDiff, aBin, aUn, if_true, if_false, reduceCtorEq, frame0, place, notTuple, Nat.reduceAdd, Nat.reduceLeDiff, resVal, dite_true, dite_false, Int.reduceEq, Int.reduceLT, Int.reduceLE]
    exact hN (i + 1) _ _ ⟨by omega, (by simp only [g5, FB, Nat.reduceEqDiff]), (by simp only [g6, FB, Nat.reduceEqDiff]), by rw [ep]; rfl, (by simp only [g16, FB, Nat.reduceEqDiff]), by rfl, k1.app, (Ext.refl.app).cells k2⟩ (by omega)
end Go.Proofs.Ytcmhnincbkbncaa.Fn
