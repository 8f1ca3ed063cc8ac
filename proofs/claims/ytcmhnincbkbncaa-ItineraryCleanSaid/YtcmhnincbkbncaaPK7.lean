/-
  Joined texts, 7 of 9. A part of the claim that the last text states.
-/
import Derived.Test.YtcmhnincbkbncaaPK6
namespace Go.Proofs.Ytcmhnincbkbncaa.Fn
open Go.AM Go.AM.Sym Go.Net
set_option maxRecDepth 100000
set_option linter.unusedVariables false
set_option linter.unusedSimpArgs false
set_option maxHeartbeats 4000000
theorem PI.lower {lim lim' R M : Nat} {S : List Nat} {G : Heap} {pp pl : Option Addr} {cp cl : Nat} {P : List Int} {L : List Leg} (h : PI lim R M S G pp pl cp cl P L) (hl : lim' ≤ lim) : PI lim' R M S G pp pl cp cl P L :=
  ⟨h.net, h.op, h.ol, h.r, h.oR, h.oM, h.m, Nat.le_trans hl h.lM, h.sl⟩
theorem fill2 (a b : Ev) : fillV 7 7 (.agg (encE b).toArray) (setAll [.int .i64 0, .int .i64 0, .int .i64 0, .int .u8 0, .int .i64 0, .int .i64 0, .int .i64 0, .int .i64 0, .int .i64 0, .int .i64 0, .int .u8 0, .int .i64 0, .int .i64 0, .int .i64 0] 0 (encE a)) = some (encE a ++ encE b) := rfl
theorem Price_ok [OB] {mp : Bool} {lim : Nat} {pp pl : Option Addr} {P : List Int} {L : List Leg} {cp cl : Nat} {a b : Ev} {H : Heap} {Q : Value → Heap → Prop} (hn : NetIn H pp pl P L) :
    CallR E mp lim 45 [.agg (netV pp P.length cp pl L.length cl).toArray, .agg (encE a).toArray, .agg (encE b).toArray] H Q = Q (.tuple #[.int .i64 (if errI P L [a, b] = 0 then priceN P L a b else 0), .int .i64 (errI P L [a, b])]) H := by
  refine pc (by decide) e45 rfl rfl ?_
  rw [b45, c45]
  have hck : ∀ (X : Heap) (mp : Bool) (lim : Nat) (Q : Value → Heap → Prop), CallR E mp lim 86 [.agg (netV pp P.length cp pl L.length cl).toArray, .slice (some ⟨H.length + 3, 0, none⟩) 2 2] (H ++ .cells false (netV pp P.length cp pl L.length cl) :: .cells false (encE a) :: .cells false (encE b) :: .cells false (encE a ++ encE b) :: X) Q = Q (.int .i64 (errI P L [a, b])) (H ++ .cells false (netV pp P.length cp pl L.length cl) :: .cells false (encE a) :: .cells false (encE b) :: .cells false (encE a ++ encE b) :: X) :=
    fun X mp lim Q => check_ok (ce := 2) (es := [a, b]) (hn.app _) (Sl.row (R := H.length + 3) (l := [a, b]) (ro := false) encE_len (by rw [hget_new]; rfl)) (show (2 : Nat) < 2 ^ 63 by decide)
  by_cases h0 : errI P L [a, b] = 0
  case neg =>
    simp only [n45, r45, netV_len, netV_0, netV_1, encE_len, encE_0, encE_1, encE_2, encE_3, encE_4, encE_5, encE_6, take_all, fill2, hck, eq_false h0, SB, Nat.reduceLT, callee, aOp, ne_eq, Nat.reduceEqDiff, aBin, aUn, if_true, if_false, reduceCtorEq, frame0, place, notTuple, Nat.reduceAdd, Nat.reduceLeDiff, resVal, dite_true, dite_false, Int.reduceEq, Int.reduceLT, Int.reduceLE]
  have hb := ((errI_0 h0).2.2 1 (show 1 < 2 by decide)).2
  simp only [n45, r45, netV_len, netV_0, netV_1, encE_len, encE_0, encE_1, encE_2, encE_3, encE_4, encE_5, encE_6, take_all, fill2, hck, eq_true h0, SB, Nat.reduceLT, callee, aOp, ne_eq, Nat.reduceEqDiff, aBin, aUn, if_true, if_false, reduceCtorEq, frame0, place, notTuple, Nat.reduceAdd, Nat.reduceLeDiff, resVal, dite_true, dite_false, Int.reduceEq, Int.reduceLT, Int.reduceLE]
  refine newPricer_ok (hn.app _) (by simp) fun G R M hE hR hM hPI => ?_
  have e4 := fun X => (Ext.refl.app (X := X)).cells (hE.cells (show hget _ (H.length + 1) = .cells false (encE a) by rw [hget_new]; rfl))
  have e5 := fun X => (Ext.refl.app (X := X)).cells (hE.cells (show hget _ (H.length + 2) = .cells false (encE b) by rw [hget_new]; rfl))
  have hl := hE.len
  simp at hl
  refine Ret_pad ?_
  simp only [n45, r45, encE_len, encE_0, encE_1, encE_2, encE_3, encE_4, encE_5, encE_6, e4, e5, take_all, eq_true h0, SB, Nat.reduceLT, callee, aOp, ne_eq, Nat.reduceEqDiff, aBin, aUn, if_true, if_false, reduceCtorEq, frame0, place, notTuple, Nat.reduceAdd, Nat.reduceLeDiff, resVal, dite_true, dite_false, Int.reduceEq, Int.reduceLT, Int.reduceLE]
  refine price_ok (a := a) (b := b) ((hPI.lower (lim' := H.length) (by simp)).app _) (by simp; omega) ⟨hb.1, hb.2.1⟩ fun G1 _ _ => ?_
  refine Ret_pad ?_
  simp only [n45, r45, eq_true h0, SB, Nat.reduceLT, callee, aOp, ne_eq, Nat.reduceEqDiff, aBin, aUn, if_true, if_false, reduceCtorEq, frame0, place, notTuple, Nat.reduceAdd, Nat.reduceLeDiff, resVal, dite_true, dite_false, Int.reduceEq, Int.reduceLT, Int.reduceLE]
  rw [h0]
def ascOk (n : Nat) (ks : List Int) (i : Nat) : Prop := 0 ≤ gt ks i ∧ gt ks i < n ∧ (0 < i → gt ks (i - 1) < gt ks i)
instance (n : Nat) (ks : List Int) (i : Nat) : Decidable (ascOk n ks i) := by unfold ascOk; infer_instance
def KsOk (n : Nat) (ks : List Int) : Prop := (ks.length = 0 → n = 0) ∧ ∀ i, i < ks.length → ascOk n ks i
instance (n : Nat) (ks : List Int) : Decidable (KsOk n ks) := by unfold KsOk; infer_instance
def errC (P : List Int) (L : List Leg) (es : List Ev) (ks : List Int) : Int := if errI P L es ≠ 0 then errI P L es else if KsOk es.length ks then 0 else 2
theorem asc_ge {n : Nat} {ks : List Int} (h : ∀ i, i < ks.length → ascOk n ks i) : ∀ i, i < ks.length → (i : Int) ≤ gt ks i
  | 0, hi => (h 0 hi).1
  | i + 1, hi => by
    have h1 := asc_ge h i (by omega)
    have h2 := (h (i + 1) hi).2.2 (by omega)
    rw [Nat.add_sub_cancel] at h2
    omega
theorem asc_len {n : Nat} {ks : List Int} (h : ∀ i, i < ks.length → ascOk n ks i) : ks.length ≤ n := by
  apply Decidable.byContradiction; intro hc
  have h1 := asc_ge h (ks.length - 1) (by omega)
  have h2 := (h (ks.length - 1) (by omega)).2.1
  omega
theorem KsOk.mem {n : Nat} {ks : List Int} (h : KsOk n ks) : ∀ k ∈ ks, 0 ≤ k ∧ k < n := fun k hk => by
  obtain ⟨i, hi, rfl⟩ := List.mem_iff_getElem.1 hk
  have := h.2 i hi
  rw [← gt_lt hi]
  exact ⟨this.1, this.2.1⟩
theorem Cost_ok [OB] {lim : Nat} {pp pl pe pk : Option Addr} {P : List Int} {L : List Leg} {cp cl ce ck : Nat} {es : List Ev} {ks : List Int} {H : Heap} {Q : Value → Heap → Prop} (hn : NetIn H pp pl P L) (hlim : lim ≤ H.length)
    (hs : Sl H encE 7 pe es) (hsl : es.length < 2 ^ 62) (hk : Sl H encI 1 pk ks) (hkl : ks.length < 2 ^ 62) (hck : pk = none → ck = 0)
    (hbad : ∀ G, errC P L es ks ≠ 0 → Chg [] H G → Q (.tuple #[.agg #[.slice none 0 0, .slice none 0 0, .int .i64 0], .int .i64 (errC P L es ks)]) G)
    (hok : ∀ G q cq r cr, errC P L es ks = 0 → Chg [] H G → Mine H.length G encI 1 q ks → Mine H.length G enc3 3 r (stepsN P L es ks) → Q (.tuple #[.agg #[.slice q ks.length cq, .slice r (stepsN P L es ks).length cr, .int .i64 (costN P L es ks)], .int .i64 0]) G) :
    CallR E false lim 42 [.agg (netV pp P.length cp pl L.length cl).toArray, .slice pe es.length ce, .slice pk ks.length ck] H Q := by
  refine runs' (by decide) e42 rfl ?_
  rw [b42, c42]
  have hck' := fun X (mp : Bool) (lim : Nat) (Q : Value → Heap → Prop) => check_ok (mp := mp) (lim := lim) (cp := cp) (cl := cl) (ce := ce) (Q := Q) (hn.app X) (hs.app X) (by omega)
  by_cases h0 : errI P L es = 0
  case neg =>
    have e : errC P L es ks = errI P L es := by unfold errC; rw [if_pos h0]
    simp only [n42, r42, netV_len, netV_0, netV_1, take_all, hck', eq_false h0, hlim, SB, Nat.reduceLT, callee, aOp, ne_eq, Nat.reduceEqDiff, aBin, aUn, if_true, if_false, reduceCtorEq, frame0, place, notTuple, Nat.reduceAdd, Nat.reduceLeDiff, resVal, dite_true, dite_false, Int.reduceEq, Int.reduceLT, Int.reduceLE]
    rw [← e]
    exact hbad _ (by rw [e]; exact h0) Chg.refl.app
  have e2 : errC P L es ks = if KsOk es.length ks then 0 else 2 := by unfold errC; rw [if_neg (by simpa using h0)]
  have bad : ∀ G, ¬ KsOk es.length ks → Chg [] H G → Q (.tuple #[.agg #[.slice none 0 0, .slice none 0 0, .int .i64 0], .int .i64 2]) G := fun G hb hC => by
    rw [if_neg hb] at e2
    have := hbad G (by rw [e2]; decide) hC
    rw [e2] at this
    exact this
  obtain ⟨hv0, h40, hev⟩ := errI_0 h0
  by_cases hz : ks.length = 0
  case' pos =>
    by_cases hz2 : 0 < es.length
    case pos =>
      simp only [n42, r42, netV_len, netV_0, netV_1, take_all, hck', eq_true h0, hlim, eq_true (show (ks.length : Int) = 0 by omega), eq_true hz2, eq_true (show (0 : Int) < (es.length : Int) by omega), SB, Nat.reduceLT, callee, aOp, ne_eq, Nat.reduceEqDiff, aBin, aUn, if_true, if_false, reduceCtorEq, frame0, place, notTuple, Nat.reduceAdd, Nat.reduceLeDiff, resVal, dite_true, dite_false, Int.reduceEq, Int.reduceLT, Int.reduceLE]
      exact bad _ (fun hh => by have := hh.1 hz; omega) Chg.refl.app
    simp only [n42, r42, netV_len, netV_0, netV_1, take_all, hck', eq_true h0, hlim, eq_true (show (ks.length : Int) = 0 by omega), eq_false hz2, eq_false (show ¬ (0 : Int) < (es.length : Int) by omega), SB, Nat.reduceLT, callee, aOp, ne_eq, Nat.reduceEqDiff, aBin, aUn, if_true, if_false, reduceCtorEq, frame0, place, notTuple, Nat.reduceAdd, Nat.reduceLeDiff, resVal, dite_true, dite_false, Int.reduceEq, Int.reduceLT, Int.reduceLE]
    have hzz : ks.length = 0 → es.length = 0 := fun _ => by omega
  case' neg =>
    simp only [n42, r42, netV_len, netV_0, netV_1, take_all, hck', eq_true h0, hlim, eq_false (show ¬ (ks.length : Int) = 0 by omega), SB, Nat.reduceLT, callee, aOp, ne_eq, Nat.reduceEqDiff, aBin, aUn, if_true, if_false, reduceCtorEq, frame0, place, notTuple, Nat.reduceAdd, Nat.reduceLeDiff, resVal, dite_true, dite_false, Int.reduceEq, Int.reduceLT, Int.reduceLE]
    have hzz : ks.length = 0 → es.length = 0 := fun hh => absurd hh hz
  all_goals
    refine Ret_rounds (fun i => ks.length - i) (fun i fr G => i ≤ ks.length ∧ fr 1 = .slice pe es.length ce ∧ fr 2 = .slice pk ks.length ck ∧ fr 3 = .pointer (some ⟨H.length, 0, none⟩) ∧ fr 6 = .pointer (some ⟨H.length + 1, 0, none⟩) ∧ fr 7 = .int .i64 0 ∧ fr 27 = .slice pk ks.length ck ∧ fr 28 = .int .i64 (ks.length : Int) ∧ fr 29 = .int .i64 (i : Int) ∧ Ext (H ++ [.cells false (netV pp P.length cp pl L.length cl), .cells false [.slice none 0 0, .slice none 0 0, .int .i64 0]]) G ∧ ∀ j, j < i → ascOk es.length ks j) 0
      ⟨Nat.zero_le _, (by simp only [FB, Nat.reduceEqDiff]), (by simp only [FB, Nat.reduceEqDiff]), (by simp only [FB, Nat.reduceEqDiff]), (by simp only [FB, Nat.reduceEqDiff]), (by simp only [FB, Nat.reduceEqDiff]), (by simp only [FB, Nat.reduceEqDiff]), (by simp only [FB, Nat.reduceEqDiff]), by rfl, Ext.refl, fun j hj => by omega⟩ ?_
    intro i fr G ⟨hi, g1, g2, g3, g6, g7, g27, g28, g29, hE, hall⟩ hN
    rw [Ret_code l42_1.eq_1]
    refine Ret_pad ?_
    have hl := hE.len
    simp at hl
    have hEH : Ext H G := (Ext.refl.app).trans hE
    have rB := fun X => (Ext.refl.app (X := X)).cells (hE.cells (show hget _ H.length = .cells false (netV pp P.length cp pl L.length cl) by rw [hget_new0]; rfl))
    have r6 := hE.cells (show hget _ (H.length + 1) = .cells false [.slice none 0 0, .slice none 0 0, .int .i64 0] by rw [hget_new]; rfl)
    have hlimG : lim ≤ H.length + 1 := by omega
    by_cases hlt : i < ks.length
    case neg =>
      obtain rfl : i = ks.length := by omega
      have hks : KsOk es.length ks := ⟨hzz, hall⟩
      rw [if_pos hks] at e2
      have hkl := asc_len hall
      simp only [n42, r42, g1, g2, g3, g6, g7, g27, g28, g29, hlt, netV_len, netV_0, netV_1, rB, take_all, SB, Nat.reduceLT, callee, aOp, ne_eq, Nat.reduceEqDiff, aBin, aUn, if_true, if_false, reduceCtorEq, frame0, place, notTuple, Nat.reduceAdd, Nat.reduceLeDiff, resVal, dite_true, dite_false, Int.reduceEq, Int.reduceLT, Int.reduceLE]
      refine newPricer_ok (lim := lim) (hn.ext (hEH.app)) (by simp; omega) fun G1 R M hE1 hR hM hPI => ?_
      have hl1 := hE1.len
      simp at hl1
      rw [List.append_nil] at hM hR
      have hE1H := hEH.app.trans hE1
      refine Ret_pad ?_
      simp only [n42, r42, g1, g2, g3, g6, g7, SB, Nat.reduceLT, callee, aOp, ne_eq, Nat.reduceEqDiff, aBin, aUn, if_true, if_false, reduceCtorEq, frame0, place, notTuple, Nat.reduceAdd, Nat.reduceLeDiff, resVal, dite_true, dite_false, Int.reduceEq, Int.reduceLT, Int.reduceLE]
      refine path_ok (hPI.app _) (by simp; omega) ((hE1H.sl hs).app _) h40 (fun i hi => ⟨(hev i hi).2.1, (hev i hi).2.2.1⟩) ((hE1H.sl hk).app _) (by omega) hck hks.mem fun G2 q cq r cr hC2 hPI2 hq hr => ?_
      have r6' := hC2.cells (show hget (G1 ++ []) (H.length + 1) = _ from (Ext.refl.app).cells (hE1.cells ((Ext.refl.app).cells r6))) (by simp; omega)
      obtain ⟨G3, e3, h3, m3⟩ := mut_set (hget_alive r6') (.cells false [.slice q ks.length cq, .slice r (stepsN P L es ks).length cr, .int .i64 (costN P L es ks)])
      have x6 := fun X => (Ext.refl.app (X := X)).cells r6'
      have x7 := fun X => (Ext.refl.app (X := X)).cells h3
      refine Ret_pad ?_
      simp only [n42, r42, g1, g2, g3, g6, g7, x6, e3, x7, hlimG, SB, Nat.reduceLT, callee, aOp, ne_eq, Nat.reduceEqDiff, aBin, aUn, if_true, if_false, reduceCtorEq, frame0, place, notTuple, Nat.reduceAdd, Nat.reduceLeDiff, resVal, dite_true, dite_false, Int.reduceEq, Int.reduceLT, Int.reduceLE]
      exact hok _ q cq r cr e2 (((Ext.chg (A := []) (hE1H.app (X := []))).trans' hC2 fun j hj hjl => by simp at hj; omega).mut m3 (.inr (by omega))).app (((hq.mut m3 (by simp; omega)).le (by simp; omega)).app _) (((hr.mut m3 (by simp; omega)).le (by simp; omega)).app _)
    have ld := fun X => ((hEH.sl hk).app X).loadCell0 encI_len hlt (by decide)
    simp only [encI, List.getElem?_cons_zero] at ld
    have ix := fun c (k : IntKind) (H1 : Heap) => (hEH.sl hk).idx (c := c) (k := k) (H1 := H1) hlt
    have hw1 : IntKind.i64.wrap ((i : Int) + 1) = ((i + 1 : Nat) : Int) := wrap_nat (by omega)
    have nok : ¬ ascOk es.length ks i → ¬ KsOk es.length ks := fun h hh => h (hh.2 i hlt)
    have x6 := fun X => (Ext.refl.app (X := X)).cells r6
    obtain ⟨G3, e3, h3, m3⟩ := mut_set (hget_alive r6) (.cells false [.slice none 0 0, .slice none 0 0, .int .i64 0])
    have x7 := fun X => (Ext.refl.app (X := X)).cells h3
    have hC3 : Chg [] H (G3 ++ []) := ((Ext.chg hEH).mut m3 (.inr (by omega))).app
    by_cases c1 : gt ks i < 0
    · simp only [n42, r42, g1, g2, g3, g6, g7, g27, g28, g29, hlt, ld, ix, x6, e3, x7, hlimG, eq_true c1, SB, Nat.reduceLT, callee, aOp, ne_eq, Nat.reduceEqDiff, aBin, aUn, if_true, if_false, reduceCtorEq, frame0, place, notTuple, Nat.reduceAdd, Nat.reduceLeDiff, resVal, dite_true, dite_false, Int.reduceEq, Int.reduceLT, Int.reduceLE]
      exact bad _ (nok fun h => by have := h.1; omega) hC3
    by_cases c2 : (es.length : Int) ≤ gt ks i
    · simp only [n42, r42, g1, g2, g3, g6, g7, g27, g28, g29, hlt, ld, ix, x6, e3, x7, hlimG, eq_false c1, eq_true c2, SB, Nat.reduceLT, callee, aOp, ne_eq, Nat.reduceEqDiff, aBin, aUn, if_true, if_false, reduceCtorEq, frame0, place, notTuple, Nat.reduceAdd, Nat.reduceLeDiff, resVal, dite_true, dite_false, Int.reduceEq, Int.reduceLT, Int.reduceLE]
      exact bad _ (nok fun h => by have := h.2.1; omega) hC3
    by_cases c3 : 0 < i
    case neg =>
      obtain rfl : i = 0 := by omega
      simp only [Int.cast_ofNat_Int] at ix
      simp only [n42, r42, g1, g2, g3, g6, g7, g27, g28, g29, hlt, ld, ix, x6, e3, x7, hlimG, eq_false c1, eq_false c2, show IntKind.i64.wrap (0 + 1) = 1 by decide, SB, Nat.reduceLT, callee, aOp, ne_eq, Nat.reduceEqDiff, aBin, aUn, if_true, if_false, reduceCtorEq, frame0, place, notTuple, Nat.reduceAdd, Nat.reduceLeDiff, resVal, dite_true, dite_false, Int.reduceEq, Int.reduceLT, Int.reduceLE]
      exact hN 1 _ _ ⟨by omega, (by simp only [g1, FB, Nat.reduceEqDiff]), (by simp only [g2, FB, Nat.reduceEqDiff]), (by simp only [g3, FB, Nat.reduceEqDiff]), (by simp only [g6, FB, Nat.reduceEqDiff]), (by simp only [g7, FB, Nat.reduceEqDiff]), (by simp only [g27, FB, Nat.reduceEqDiff]), (by simp only [g28, FB, Nat.reduceEqDiff]), by rfl, hE.app, fun j hj => by
        obtain rfl : j = 0 := by omega
        exact ⟨by omega, by omega, fun h => by omega⟩⟩ (by omega)
    obtain ⟨k, rfl⟩ : ∃ k, i = k + 1 := ⟨i - 1, by omega⟩
    have lk := fun X => ((hEH.sl hk).app X).loadCell0 encI_len (i := k) (by omega) (by decide)
    simp only [encI, List.getElem?_cons_zero] at lk
    have ik := fun c (kk : IntKind) (H1 : Heap) => (hEH.sl hk).idx (c := c) (k := kk) (H1 := H1) (i := k) (by omega)
    have wk : IntKind.i64.wrap (((k + 1 : Nat) : Int) - 1) = (k : Int) := by rw [wrap_id (by omega) (by omega)]; omega
    by_cases c4 : gt ks (k + 1) ≤ gt ks k
    · simp only [n42, r42, g1, g2, g3, g6, g7, g27, g28, g29, hlt, ld, ix, x6, e3, x7, hlimG, eq_false c1, eq_false c2, eq_true c3, lk, ik, wk, eq_true c4, SB, Nat.reduceLT, callee, aOp, ne_eq, Nat.reduceEqDiff, aBin, aUn, if_true, if_false, reduceCtorEq, frame0, place, notTuple, Nat.reduceAdd, Nat.reduceLeDiff, resVal, dite_true, dite_false, Int.reduceEq, Int.reduceLT, Int.reduceLE]
      exact bad _ (nok fun h => by have := h.2.2 c3; rw [Nat.add_sub_cancel] at this; omega) hC3
    simp only [n42, r42, g1, g2, g3, g6, g7, g27, g28, g29, hlt, ld, ix, x6, e3, x7, hlimG, eq_false c1, eq_false c2, eq_true c3, lk, ik, wk, eq_false c4, hw1, SB, Nat.reduceLT, callee, aOp, ne_eq, Nat.reduceEqDiff, aBin, aUn, if_true, if_false, reduceCtorEq, frame0, place, notTuple, Nat.reduceAdd, Nat.reduceLeDiff, resVal, dite_true, dite_false, Int.reduceEq, Int.reduceLT, Int.reduceLE]
    exact hN (k + 2) _ _ ⟨by omega, (by simp only [g1, FB, Nat.reduceEqDiff]), (by simp only [g2, FB, Nat.reduceEqDiff]), (by simp only [g3, FB, Nat.reduceEqDiff]), (by simp only [g6, FB, Nat.reduceEqDiff]), (by simp only [g7, FB, Nat.reduceEqDiff]), (by simp only [g27, FB, Nat.reduceEqDiff]), (by simp only [g28, FB, Nat.reduceEqDiff]), (by simp only [FB, Nat.reduceEqDiff]), hE.app, fun j hj => by
      rcases Nat.lt_or_ge j (k + 1) with h | h
      · exact hall j h
      · obtain rfl : j = k + 1 := by omega
        exact ⟨by omega, by omega, fun _ => by rw [Nat.add_sub_cancel]; omega⟩⟩ (by omega)
abbrev Tri := Int × Int × Int
def lessR (x y : Tri) : Bool := decide (x.1 < y.1 ∨ (x.1 = y.1 ∧ y.2.1 < x.2.1))
theorem less_ok [OB] {mp : Bool} {lim : Nat} {x y : Tri} {H : Heap} {Q : Value → Heap → Prop} : CallR E mp lim 115 [.agg (enc3 x).toArray, .agg (enc3 y).toArray] H Q = Q (.bool (lessR x y)) H := by
  refine pc (by decide) e115 rfl rfl ?_
  rw [b115, c115]
  obtain ⟨a, b, c⟩ := x
  obtain ⟨a', b', c'⟩ := y
  have e0 : lessR (a, b, c) (a', b', c') = decide (a < a' ∨ (a = a' ∧ b' < b)) := rfl
  rw [e0]
  by_cases h1 : a < a'
  · have e := decide_eq_true (show a < a' ∨ (a = a' ∧ b' < b) from .inl h1)
    rw [e]
    simp only [n115, r115, enc3, eq_true h1, SB, Nat.reduceLT, callee, aOp, ne_eq, Nat.reduceEqDiff, aBin, aUn, if_true, if_false, reduceCtorEq, frame0, place, notTuple, Nat.reduceAdd, Nat.reduceLeDiff, resVal, dite_true, dite_false, Int.reduceEq, Int.reduceLT, Int.reduceLE]
  by_cases h2 : a = a'
  · have e : decide (a < a' ∨ (a = a' ∧ b' < b)) = decide (b' < b) := decide_eq_decide.2 ⟨fun h => by omega, fun h => .inr ⟨h2, h⟩⟩
    rw [e]
    simp only [n115, r115, enc3, eq_false h1, eq_true h2, SB, Nat.reduceLT, callee, aOp, ne_eq, Nat.reduceEqDiff, aBin, aUn, if_true, if_false, reduceCtorEq, frame0, place, notTuple, Nat.reduceAdd, Nat.reduceLeDiff, resVal, dite_true, dite_false, Int.reduceEq, Int.reduceLT, Int.reduceLE]
  · have e := decide_eq_false (show ¬ (a < a' ∨ (a = a' ∧ b' < b)) by omega)
    rw [e]
    simp only [n115, r115, enc3, eq_false h1, eq_false h2, SB, Nat.reduceLT, callee, aOp, ne_eq, Nat.reduceEqDiff, aBin, aUn, if_true, if_false, reduceCtorEq, frame0, place, notTuple, Nat.reduceAdd, Nat.reduceLeDiff, resVal, dite_true, dite_false, Int.reduceEq, Int.reduceLT, Int.reduceLE]
def candN (P : List Int) (L : List Leg) (es : List Ev) (T : List Tri) (i j : Nat) : Tri := (priceN P L (gt es i) (gt es j) + 30 * ((j : Int) - i - 1) + (gt T j).1, (gt T j).2.1 + 1, (j : Int))
def pickR (x r : Tri) : Tri := if lessR x r then x else r
def rowUp (P : List Int) (L : List Leg) (es : List Ev) (T : List Tri) (i : Nat) : Nat → Tri
  | 0 => (30 * ((es.length : Int) - 1 - i), 1, -1)
  | m + 1 => pickR (rowUp P L es T i m) (candN P L es T i (es.length - 1 - m))
def tableN (P : List Int) (L : List Leg) (es : List Ev) : Nat → List Tri
  | 0 => List.replicate es.length (0, 0, 0)
  | k + 1 => (tableN P L es k).set (es.length - 1 - k) (rowUp P L es (tableN P L es k) (es.length - 1 - k) k)
theorem tableN_len {P : List Int} {L : List Leg} {es : List Ev} : ∀ k, (tableN P L es k).length = es.length
  | 0 => by simp [tableN]
  | k + 1 => by rw [tableN, List.length_set, tableN_len k]
def SmallT (T : List Tri) : Prop := ∀ j, 0 ≤ (gt T j).1 ∧ (gt T j).1 ≤ 10000 ∧ 0 ≤ (gt T j).2.1 ∧ (gt T j).2.1 ≤ 40
theorem enc3_set3 {x : Tri} {a b c : Value} : (((enc3 x).set 0 a).set 1 b).set 2 c = [a, b, c] := id rfl
theorem mask1 {G : Heap} {c : Blk} : maskH G.length [0] (G ++ [c]) = G ++ [.dead] := by
  show (G ++ [c]).set (G.length + 0) .dead = _
  rw [Nat.add_zero, List.set_append_right _ _ (Nat.le_refl _), Nat.sub_self]; rfl
theorem unmask1 {G G1 : Heap} {c : Blk} : unmaskH G.length [0] (G ++ [c]) G1 = G1.set G.length c := by
  show G1.set (G.length + 0) (hget (G ++ [c]) (G.length + 0)) = _
  rw [Nat.add_zero, hget_new0]; rfl
theorem inner_ok [OB] {lim R M B8 BT : Nat} {S : List Nat} {pp pl pe : Option Addr} {P : List Int} {L : List Leg} {cp cl ce ct : Nat} {es : List Ev} {T : List Tri} {i : Nat} {G : Heap} {fr : Nat → Value} {K : List AItem} {Z : Value → Heap → Prop} (hi : i < es.length) (hlim : lim ≤ B8) (hS : B8 ∈ S) (hS2 : BT ∈ S)
    (h40 : es.length ≤ 40) (ht : ∀ i, i < es.length → 0 ≤ (gt es i).time ∧ (gt es i).time ≤ maxTime) (hT : T.length = es.length) (hsm : SmallT T)
    (hP : PI lim R M S G pp pl cp cl P L) (hs : Sl G encE 7 pe es) (hBT : hget G BT = .cells false (T.flatMap enc3)) (hB8 : hget G B8 = .cells false (enc3 (rowUp P L es T i 0)))
    (f0 : fr 0 = .pointer (some ⟨R, 0, none⟩)) (f1 : fr 1 = .slice pe es.length ce) (f5 : fr 5 = .slice (some ⟨BT, 0, none⟩) T.length ct) (f6 : fr 6 = .func (.func 115) #[] #[]) (f7 : fr 7 = .int .i64 (i : Int)) (f8 : fr 8 = .pointer (some ⟨B8, 0, none⟩)) (f9 : fr 9 = .int .i64 ((es.length : Int) - 1))
    (hR : ∀ fr' G', Chg [M, B8] G G' → PI lim R M S G' pp pl cp cl P L → hget G' B8 = .cells false (enc3 (rowUp P L es T i (es.length - 1 - i))) → (∀ j, j ≤ 8 → fr' j = fr j) → Ret E a89 lim K fr' G' Z) :
    Ret E a89 lim (.code (.loop l89_3) :: .inBlock 2 :: K) fr G Z := by
  refine Ret_rounds (fun m => es.length - m) (fun m fr' G' => m ≤ es.length - 1 - i ∧ Chg [M, B8] G G' ∧ PI lim R M S G' pp pl cp cl P L ∧ hget G' B8 = .cells false (enc3 (rowUp P L es T i m)) ∧ (∀ j, j ≤ 8 → fr' j = fr j) ∧ fr' 9 = .int .i64 ((es.length : Int) - 1 - m)) 0
    ⟨Nat.zero_le _, Chg.refl, hP, hB8, fun j _ => rfl, by rw [f9]; simp⟩ ?_
  intro m fr' G' ⟨hm, hC, hPI, hB, hfr, g9⟩ hN
  rw [Ret_code l89_3.eq_1]
  have g0 := (hfr 0 (by decide)).trans f0
  have g1 := (hfr 1 (by decide)).trans f1
  have g5 := (hfr 5 (by decide)).trans f5
  have g6 := (hfr 6 (by decide)).trans f6
  have g7 := (hfr 7 (by decide)).trans f7
  have g8 := (hfr 8 (by decide)).trans f8
  refine Ret_pad ?_
  by_cases hlt : m < es.length - 1 - i
  case neg =>
    obtain rfl : m = es.length - 1 - i := by omega
    have e9 : (es.length : Int) - 1 - ((es.length - 1 - i : Nat) : Int) = (i : Int) := by omega
    rw [e9] at g9
    simp only [n89, r89, g7, g9, SB, Nat.reduceLT, callee, aOp, ne_eq, Nat.reduceEqDiff, aBin, aUn, if_true, if_false, reduceCtorEq, frame0, place, notTuple, Nat.reduceAdd, Nat.reduceLeDiff, resVal, dite_true, dite_false, Int.reduceEq, Int.reduceLT, Int.reduceLE]
    exact hR _ _ hC.app (hPI.app _) ((Ext.refl.app).cells hB) fun j hj => by
      rw [← hfr j hj]
      simp only [upd]
      repeat rw [if_neg (by omega)]
  generalize hj : es.length - 1 - m = j
  have e9 : (es.length : Int) - 1 - (m : Int) = (j : Int) := by omega
  rw [e9] at g9
  have hjn : j < es.length := by omega
  have hij : i < j := by omega
  have hne : BT ≠ B8 := by
    rintro rfl
    rw [hBT] at hB8
    simp only [Blk.cells.injEq, true_and] at hB8
    have := congrArg List.length hB8
    rw [flat_len enc3_len, enc3_len] at this
    omega
  have hneM : BT ≠ M := fun e => hPI.oM (e ▸ hS2)
  have hsT : Sl G' enc3 3 (some ⟨BT, 0, none⟩) T := Sl.row (ro := false) enc3_len (hC.cells hBT (by simp; exact ⟨hneM, hne⟩))
  have hB8l : ∀ a, pe = some a → es ≠ [] → a.block ≠ B8 := fun a ha hn e => by
    subst ha
    obtain ⟨ro, c, k1, k2, _⟩ := hs.2 hn
    rw [e, hB8] at k1
    simp only [Blk.cells.injEq] at k1
    rw [← k1.2, enc3_len] at k2
    omega
  have hsG : Sl G' encE 7 pe es := slSimA hs fun a ha hn ro c hc => hC.cells hc (by
    have h1 := hB8l a ha hn
    have h2 : a.block ≠ M := fun e => by obtain ⟨ms, k1, _⟩ := hP.m; rw [e, k1] at hc; cases hc
    simp; exact ⟨h2, h1⟩)
  have la := fun X => (hsG.app X).loadCells encE_len hi
  have lb := fun X => (hsG.app X).loadCells encE_len hjn
  have xa := fun c (k : IntKind) (H1 : Heap) => hsG.idx (c := c) (k := k) (H1 := H1) hi
  have xb := fun c (k : IntKind) (H1 : Heap) => hsG.idx (c := c) (k := k) (H1 := H1) hjn
  have hjT : j < T.length := by omega
  have l0 := fun X => (hsT.app X).loadCell enc3_len hjT (j := 0) (by decide)
  have l1 := fun X => (hsT.app X).loadCell enc3_len hjT (j := 1) (by decide)
  simp only [enc3, List.getElem?_cons_zero, List.getElem?_cons_succ] at l0 l1
  have xj := fun c (k : IntKind) (H1 : Heap) => hsT.idx (c := c) (k := k) (H1 := H1) hjT
  have hsj := hsm j
  have w1 : IntKind.i64.wrap ((j : Int) - i) = (j : Int) - i := wrap_id (by omega) (by omega)
  have w2 : IntKind.i64.wrap ((j : Int) - i - 1) = (j : Int) - i - 1 := wrap_id (by omega) (by omega)
  have w3 : IntKind.i64.wrap (30 * ((j : Int) - i - 1)) = 30 * ((j : Int) - i - 1) := wrap_id (by omega) (by omega)
  have w4 : IntKind.i64.wrap ((gt T j).2.1 + 1) = (gt T j).2.1 + 1 := wrap_id (by omega) (by omega)
  have dlt := decide_eq_true (show i < j from hij)
  simp only [n89, r89, g0, g1, g5, g6, g7, g8, g9, dlt, la, lb, xa, xb, l0, l1, xj, w1, w2, w3, w4, SB, Nat.reduceLT, callee, aOp, ne_eq, Nat.reduceEqDiff, aBin, aUn, if_true, if_false, reduceCtorEq, frame0, place, notTuple, Nat.reduceAdd, Nat.reduceLeDiff, resVal, dite_true, dite_false, Int.reduceEq, Int.reduceLT, Int.reduceLE]
  have hB8g := hget_alive hB8
  have hGG := hC.len
  refine price_ok (a := gt es i) (b := gt es j) (hPI.grow [.dead] (Nat.le_refl _) (by simp)) (by simp; omega) (ht j hjn) fun G1 hC1 hPI1 => ⟨cellsKept_of ?_, ?_⟩
  · rw [mask1]
    exact (hPI.grow [.dead] (Nat.le_refl _) (by simp)).chgk hC1
  have hl1 := hC1.len
  simp at hl1
  obtain ⟨G2, e2, h2, m2⟩ := mut_set (show G'.length < G1.length by omega) (.cells false [.int .i64 0, .int .i64 0, .int .i64 0])
  have eu : unmaskH (List.length G') [0] (G' ++ [.cells false [.int .i64 0, .int .i64 0, .int .i64 0]]) G1 = G2 ++ [] := by rw [unmask1, ← e2, List.append_nil]
  rw [List.append_nil, eu]
  generalize hp : priceN P L (gt es i) (gt es j) = p
  have hpr := priceN_range (P := P) (L := L) (a := gt es i) (b := gt es j)
  rw [hp] at hpr
  have w5 : IntKind.i64.wrap (p + 30 * ((j : Int) - i - 1)) = p + 30 * ((j : Int) - i - 1) := wrap_id (by omega) (by omega)
  have w6 : IntKind.i64.wrap (p + 30 * ((j : Int) - i - 1) + (gt T j).1) = p + 30 * ((j : Int) - i - 1) + (gt T j).1 := wrap_id (by omega) (by omega)
  have w7 : IntKind.i64.wrap ((j : Int) - 1) = (es.length : Int) - 1 - ((m + 1 : Nat) : Int) := by rw [wrap_id (by omega) (by omega)]; omega
  obtain ⟨G3, e3, h3, m3⟩ := mut_set (hget_alive h2) (.cells false [.int .i64 (p + 30 * ((j : Int) - i - 1) + (gt T j).1), .int .i64 ((gt T j).2.1 + 1), .int .i64 (j : Int)])
  have hB1 := (hPI.app [.dead]).chgk hC1 _ _ _ ((Ext.refl.app).cells hB)
  have hBlt := hget_alive hB
  have hB3 := m3.cells (m2.cells hB1 (by omega)) (by omega)
  have ec : candN P L es T i j = (p + 30 * ((j : Int) - i - 1) + (gt T j).1, (gt T j).2.1 + 1, (j : Int)) := by unfold candN; rw [hp]
  have hless : ∀ (X : Heap) (mp : Bool) (lim : Nat) (Q : Value → Heap → Prop), CallR E mp lim 115 [.agg (enc3 (rowUp P L es T i m)).toArray, .agg #[.int .i64 (p + 30 * ((j : Int) - i - 1) + (gt T j).1), .int .i64 ((gt T j).2.1 + 1), .int .i64 (j : Int)]] X Q = Q (.bool (lessR (rowUp P L es T i m) (candN P L es T i j))) X := fun X mp lim Q => by rw [ec]; exact less_ok (x := rowUp P L es T i m) (y := (p + 30 * ((j : Int) - i - 1) + (gt T j).1, (gt T j).2.1 + 1, (j : Int)))
  have er : rowUp P L es T i (m + 1) = pickR (rowUp P L es T i m) (candN P L es T i j) := by rw [rowUp, hj]
  have X2 := fun X => (Ext.refl.app (X := X)).cells h2
  have X3 := fun X => (Ext.refl.app (X := X)).cells h3
  have XB := fun X => (Ext.refl.app (X := X)).cells hB3
  have k1 : Chg [M, B8] G G3 := ((hC.trans (hC1.pre.mono fun j _ hj => by simp at hj; simp [hj])).mut m2 (.inr (by have := hC.len; omega))).mut m3 (.inr (by have := hC.len; omega))
  have k2 := hPI1.chg ((Chg.refl.mut m2 (.inl (by simp))).mut m3 (.inl (by simp)))
  have hlimG' : lim ≤ G'.length := by omega
  cases hb : lessR (rowUp P L es T i m) (candN P L es T i j) with
  | true =>
    rw [hb] at hless
    rw [pickR, if_pos hb] at er
    simp only [n89, r89, g0, g1, g5, g6, g7, g8, g9, w5, w6, w7, X2, e3, X3, XB, enc3_len, take_all, hless, hlimG', SB, Nat.reduceLT, callee, aOp, ne_eq, Nat.reduceEqDiff, aBin, aUn, if_true, if_false, reduceCtorEq, frame0, place, notTuple, Nat.reduceAdd, Nat.reduceLeDiff, resVal, dite_true, dite_false, Int.reduceEq, Int.reduceLT, Int.reduceLE]
    exact hN (m + 1) _ _ ⟨by omega, k1.app, k2.sub (fun q hq => by simp [hq]) |>.app _, by rw [er]; exact (Ext.refl.app).cells hB3, fun q hq => by
      rw [← hfr q hq]
      simp only [upd]
      repeat rw [if_neg (by omega)], by rfl⟩ (by omega)
  | false =>
    rw [hb] at hless
    rw [pickR, if_neg (by rw [hb]; decide), ec] at er
    obtain ⟨G4, e4, h4, m4⟩ := mut_set (hget_alive hB3) (.cells false [.int .i64 (p + 30 * ((j : Int) - i - 1) + (gt T j).1), .int .i64 ((gt T j).2.1 + 1), .int .i64 (j : Int)])
    simp only [n89, r89, g0, g1, g5, g6, g7, g8, g9, w5, w6, w7, X2, e3, X3, XB, enc3_len, take_all, hless, hlimG', hlim, e4, enc3_set3, SB, Nat.reduceLT, callee, aOp, ne_eq, Nat.reduceEqDiff, aBin, aUn, if_true, if_false, reduceCtorEq, frame0, place, notTuple, Nat.reduceAdd, Nat.reduceLeDiff, resVal, dite_true, dite_false, Int.reduceEq, Int.reduceLT, Int.reduceLE]
    exact hN (m + 1) _ _ ⟨by omega, (k1.mut m4 (.inl (by simp))).app, ((k2.chg (Chg.refl.mut m4 (.inl (by simp [hS])))).sub (fun q hq => by simp [hq])).app _, by rw [er]; exact (Ext.refl.app).cells h4, fun q hq => by
      rw [← hfr q hq]
      simp only [upd]
      repeat rw [if_neg (by omega)], by rfl⟩ (by omega)
def Bnd (n j : Nat) (x : Tri) : Prop := 0 ≤ x.1 ∧ x.1 ≤ 110 * ((n : Int) - 1 - j) ∧ 0 ≤ x.2.1 ∧ x.2.1 ≤ (n : Int) - j ∧ -1 ≤ x.2.2 ∧ x.2.2 < n
theorem pickR_bnd {n j : Nat} {x y : Tri} (hx : Bnd n j x) (hy : Bnd n j y) : Bnd n j (pickR x y) := by
  unfold pickR
  split
  · exact hx
  · exact hy
theorem rowUp_bnd {P : List Int} {L : List Leg} {es : List Ev} {T : List Tri} {i : Nat} (hT : ∀ j, j < es.length → Bnd es.length j (gt T j)) (hi : i < es.length) : ∀ m, m ≤ es.length - 1 - i → Bnd es.length i (rowUp P L es T i m)
  | 0, _ => by
    unfold rowUp Bnd
    refine ⟨?_, ?_, ?_, ?_, ?_, ?_⟩ <;> simp only <;> omega
  | m + 1, hm => by
    rw [rowUp]
    refine pickR_bnd (rowUp_bnd hT hi m (by omega)) ?_
    have h1 := hT (es.length - 1 - m) (by omega)
    have h2 := priceN_range (P := P) (L := L) (a := gt es i) (b := gt es (es.length - 1 - m))
    unfold candN Bnd at *
    refine ⟨?_, ?_, ?_, ?_, ?_, ?_⟩ <;> simp only <;> omega
theorem gt_set {α : Type} [Inhabited α] {l : List α} {i j : Nat} {x : α} (hi : i < l.length) : gt (l.set i x) j = if i = j then x else gt l j := by
  unfold gt
  rw [List.getD_eq_getElem?_getD, List.getElem?_set, List.getD_eq_getElem?_getD]
  split
  · simp [hi]
  · rfl
theorem tableN_bnd {P : List Int} {L : List Leg} {es : List Ev} : ∀ k, k ≤ es.length → ∀ j, j < es.length → Bnd es.length j (gt (tableN P L es k) j)
  | 0, _, j, hj => by
    rw [tableN, gt_lt (by simpa using hj), List.getElem_replicate]
    unfold Bnd
    refine ⟨?_, ?_, ?_, ?_, ?_, ?_⟩ <;> simp only <;> omega
  | k + 1, hk, j, hj => by
    rw [tableN, gt_set (by rw [tableN_len]; omega)]
    split
    · rename_i e
      subst e
      exact rowUp_bnd (tableN_bnd k (by omega)) hj k (by omega)
    · exact tableN_bnd k (by omega) j hj
theorem bnd_small {n : Nat} {T : List Tri} (hn : n ≤ 40) (hT : T.length = n) (h : ∀ j, j < n → Bnd n j (gt T j)) : SmallT T := fun j => by
  by_cases hj : j < n
  · have := h j hj
    unfold Bnd at this
    omega
  · have e : gt T j = (0, 0, 0) := by unfold gt; rw [List.getD_eq_getElem?_getD, List.getElem?_eq_none (by omega)]; rfl
    rw [e]
    refine ⟨?_, ?_, ?_, ?_⟩ <;> simp only <;> omega
def NextOk (n j : Nat) (x : Tri) : Prop := x.2.2 = -1 ∨ ((j : Int) < x.2.2 ∧ x.2.2 < n)
theorem rowUp_next {P : List Int} {L : List Leg} {es : List Ev} {T : List Tri} {i : Nat} : ∀ m, m ≤ es.length - 1 - i → NextOk es.length i (rowUp P L es T i m)
  | 0, _ => .inl rfl
  | m + 1, hm => by
    rw [rowUp, pickR]
    split
    · exact rowUp_next m (by omega)
    · refine .inr ⟨?_, ?_⟩ <;> simp only [candN] <;> omega
theorem tableN_next {P : List Int} {L : List Leg} {es : List Ev} : ∀ k, k ≤ es.length → ∀ j, es.length - k ≤ j → j < es.length → NextOk es.length j (gt (tableN P L es k) j)
  | 0, _, j, h1, h2 => by omega
  | k + 1, hk, j, h1, hj => by
    rw [tableN, gt_set (by rw [tableN_len]; omega)]
    split
    · rename_i e
      subst e
      exact rowUp_next k (by omega)
    · exact tableN_next k (by omega) j (by omega) hj
def topC (T : List Tri) (i : Nat) : Tri := (30 * (i : Int) + (gt T i).1, (gt T i).2.1, (i : Int))
def topN (n : Nat) (T : List Tri) : Nat → Tri
  | 0 => (0, 0, -1)
  | m + 1 => if (topN n T m).2.2 < 0 then topC T (n - 1 - m) else pickR (topN n T m) (topC T (n - 1 - m))
def chainN (T : List Tri) : Nat → Int → List Int
  | 0, _ => []
  | f + 1, x => if x < 0 then [] else x :: chainN T f (gt T x.toNat).2.2
def bestN (P : List Int) (L : List Leg) (es : List Ev) : List Int := chainN (tableN P L es es.length) es.length (topN es.length (tableN P L es es.length) es.length).2.2
theorem topN_next {n : Nat} {T : List Tri} : ∀ m, m ≤ n → (topN n T m).2.2 < n ∧ -1 ≤ (topN n T m).2.2
  | 0, _ => ⟨by show (-1 : Int) < n; omega, Int.le_refl _⟩
  | m + 1, hm => by
    have h1 : (topC T (n - 1 - m)).2.2 < n ∧ -1 ≤ (topC T (n - 1 - m)).2.2 := by
      unfold topC
      constructor <;> simp only <;> omega
    have h2 := topN_next (n := n) (T := T) m (by omega)
    rw [topN]
    unfold pickR
    split
    · exact h1
    · split
      · exact h2
      · exact h1
theorem chainN_mem {n : Nat} {T : List Tri} (hT : ∀ j, j < n → NextOk n j (gt T j)) : ∀ (f : Nat) (x : Int), x < n → ∀ k ∈ chainN T f x, 0 ≤ k ∧ k < n
  | 0, _, _, k, hk => by cases hk
  | f + 1, x, hx, k, hk => by
    rw [chainN] at hk
    split at hk
    · cases hk
    · rename_i h0
      rcases List.mem_cons.1 hk with rfl | hk
      · exact ⟨by omega, hx⟩
      · refine chainN_mem hT f _ ?_ k hk
        rcases hT x.toNat (by omega) with e | e
        · rw [e]; omega
        · exact e.2
theorem chainN_len {T : List Tri} : ∀ (f : Nat) (x : Int), (chainN T f x).length ≤ f
  | 0, _ => Nat.le_refl _
  | f + 1, x => by
    rw [chainN]
    split
    · exact Nat.zero_le _
    · rw [List.length_cons]; have := chainN_len (T := T) f (gt T x.toNat).2.2; omega
theorem bestN_mem {P : List Int} {L : List Leg} {es : List Ev} : ∀ k ∈ bestN P L es, 0 ≤ k ∧ k < es.length :=
  chainN_mem (fun j hj => tableN_next _ (Nat.le_refl _) j (by omega) hj) _ _ (topN_next _ (Nat.le_refl _)).1
theorem zeros3 (n : Nat) : (List.range (n * 3)).map (fun j => [Value.int .i64 0, Value.int .i64 0, Value.int .i64 0].getD (j % 3) undef) = (List.replicate n ((0, 0, 0) : Tri)).flatMap enc3 := by
  have h1 : ∀ j, [Value.int .i64 0, Value.int .i64 0, Value.int .i64 0].getD (j % 3) undef = Value.int .i64 0 := fun j => by
    have : j % 3 = 0 ∨ j % 3 = 1 ∨ j % 3 = 2 := by omega
    rcases this with e | e | e <;> rw [e] <;> rfl
  simp only [h1]
  rw [List.map_const', List.length_range]
  induction n with
  | zero => rfl
  | succ n ih =>
    rw [List.replicate_succ, List.flatMap_cons, ← ih, Nat.succ_mul]
    rfl
theorem tsl {T : List Tri} {n : Nat} (h : T.length = n) (p : Option Addr) (c : Nat) : Value.slice p n c = Value.slice p T.length c := by rw [h]
theorem top_ok [OB] {lim R M B BT n : Nat} {S : List Nat} {pp pl pe : Option Addr} {P : List Int} {L : List Leg} {cp cl ce ct : Nat} {T : List Tri} {G : Heap} {fr : Nat → Value} {K : List AItem} {Z : Value → Heap → Prop} (hlim : lim ≤ B) (h40 : n ≤ 40) (hT : T.length = n) (hTb : ∀ j, j < n → Bnd n j (gt T j))
    (hP : PI lim R M S G pp pl cp cl P L) (hS : B ∈ S) (hne : BT ≠ B) (hBT : hget G BT = .cells false (T.flatMap enc3)) (hB : hget G B = .cells false (enc3 (topN n T 0)))
    (f1 : fr 1 = .slice pe n ce) (f5 : fr 5 = .slice (some ⟨BT, 0, none⟩) T.length ct) (f6 : fr 6 = .func (.func 115) #[] #[]) (f12 : fr 12 = .pointer (some ⟨B, 0, none⟩)) (f13 : fr 13 = .int .i64 ((n : Int) - 1))
    (hR : ∀ fr' G', Chg [B] G G' → PI lim R M S G' pp pl cp cl P L → hget G' B = .cells false (enc3 (topN n T n)) → (∀ j, j ≤ 12 → fr' j = fr j) → Ret E a89 lim K fr' G' Z) :
    Ret E a89 lim (.code (.loop l89_2) :: .inBlock 4 :: K) fr G Z := by
  refine Ret_rounds (fun m => n - m) (fun m fr' G' => m ≤ n ∧ Chg [B] G G' ∧ PI lim R M S G' pp pl cp cl P L ∧ hget G' B = .cells false (enc3 (topN n T m)) ∧ (∀ j, j ≤ 12 → fr' j = fr j) ∧ fr' 13 = .int .i64 ((n : Int) - 1 - m)) 0
    ⟨Nat.zero_le _, Chg.refl, hP, hB, fun j _ => rfl, by rw [f13]; simp⟩ ?_
  intro m fr' G' ⟨hm, hC, hPI, hB1, hfr, g13⟩ hN
  rw [Ret_code l89_2.eq_1]
  have g5 := (hfr 5 (by decide)).trans f5
  have g6 := (hfr 6 (by decide)).trans f6
  have g12 := (hfr 12 (by decide)).trans f12
  refine Ret_pad ?_
  by_cases hlt : m < n
  case neg =>
    obtain rfl : m = n := by omega
    have e9 : (m : Int) - 1 - (m : Int) = -1 := by omega
    rw [e9] at g13
    simp only [n89, r89, g13, SB, Nat.reduceLT, callee, aOp, ne_eq, Nat.reduceEqDiff, aBin, aUn, if_true, if_false, reduceCtorEq, frame0, place, notTuple, Nat.reduceAdd, Nat.reduceLeDiff, resVal, dite_true, dite_false, Int.reduceEq, Int.reduceLT, Int.reduceLE]
    exact hR _ _ hC.app (hPI.app _) ((Ext.refl.app).cells hB1) fun j hj => by
      rw [← hfr j hj]
      simp only [upd]
      repeat rw [if_neg (by omega)]
  generalize hi : n - 1 - m = i
  have e9 : (n : Int) - 1 - (m : Int) = (i : Int) := by omega
  rw [e9] at g13
  have hin : i < n := by omega
  have hiT : i < T.length := by omega
  have hsT : Sl G' enc3 3 (some ⟨BT, 0, none⟩) T := Sl.row (ro := false) enc3_len (hC.cells hBT (by simp; exact hne))
  have l0 := fun X => (hsT.app X).loadCell enc3_len hiT (j := 0) (by decide)
  have l1 := fun X => (hsT.app X).loadCell enc3_len hiT (j := 1) (by decide)
  simp only [enc3, List.getElem?_cons_zero, List.getElem?_cons_succ] at l0 l1
  have xj := fun c (k : IntKind) (H1 : Heap) => hsT.idx (c := c) (k := k) (H1 := H1) hiT
  have hb := hTb i hin
  unfold Bnd at hb
  have w1 : IntKind.i64.wrap (30 * (i : Int)) = 30 * (i : Int) := wrap_id (by omega) (by omega)
  have w2 : IntKind.i64.wrap (30 * (i : Int) + (gt T i).1) = 30 * (i : Int) + (gt T i).1 := wrap_id (by omega) (by omega)
  have w3 : IntKind.i64.wrap ((i : Int) - 1) = (n : Int) - 1 - ((m + 1 : Nat) : Int) := by rw [wrap_id (by omega) (by omega)]; omega
  have i0 := eq_true (show (0 : Int) ≤ (i : Int) by omega)
  have hlimG : lim ≤ G'.length := by have := hC.len; have := hget_alive hB; omega
  have hBl := hget_alive hB1
  have et : topN n T (m + 1) = if (topN n T m).2.2 < 0 then topC T i else pickR (topN n T m) (topC T i) := by rw [topN, hi]
  generalize hx : topN n T m = x at et
  rw [hx] at hB1
  have hB2 := hB1
  simp only [enc3] at hB2
  have XB := fun X => (Ext.refl.app (X := X)).cells hB2
  have hless : ∀ (X : Heap) (mp : Bool) (lim : Nat) (Q : Value → Heap → Prop), CallR E mp lim 115 [.agg #[.int .i64 x.1, .int .i64 x.2.1, .int .i64 x.2.2], .agg #[.int .i64 (30 * (i : Int) + (gt T i).1), .int .i64 (gt T i).2.1, .int .i64 (i : Int)]] X Q = Q (.bool (lessR x (topC T i))) X := fun X mp lim Q => less_ok (x := x) (y := topC T i)
  obtain ⟨G3, e3, h3, m3⟩ := mut_set hBl (.cells false [.int .i64 (30 * (i : Int) + (gt T i).1), .int .i64 (gt T i).2.1, .int .i64 (i : Int)])
  have hframe : ∀ (f : Nat → Value), (∀ j, j ≤ 12 → f j = fr' j) → ∀ j, j ≤ 12 → f j = fr j := fun f h j hj => (h j hj).trans (hfr j hj)
  by_cases hneg : x.2.2 < 0
  · rw [if_pos hneg] at et
    simp only [n89, r89, g5, g6, g12, g13, l0, l1, xj, w1, w2, w3, i0, hlimG, XB, eq_true hneg, hlim, e3, SB, Nat.reduceLT, callee, aOp, ne_eq, Nat.reduceEqDiff, aBin, aUn, if_true, if_false, reduceCtorEq, frame0, place, notTuple, Nat.reduceAdd, Nat.reduceLeDiff, resVal, dite_true, dite_false, Int.reduceEq, Int.reduceLT, Int.reduceLE]
    exact hN (m + 1) _ _ ⟨by omega, (hC.mut m3 (.inl (by simp))).app, (hPI.chg (Chg.refl.mut m3 (.inl hS))).app _, by rw [et]; exact (Ext.refl.app).cells h3, hframe _ (fun j hj => by
      simp only [upd]
      repeat rw [if_neg (by omega)]), by rfl⟩ (by omega)
  rw [if_neg hneg] at et
  cases hb : lessR x (topC T i) with
  | true =>
    rw [hb] at hless
    rw [pickR, if_pos hb] at et
    simp only [n89, r89, g5, g6, g12, g13, l0, l1, xj, w1, w2, w3, i0, hlimG, XB, eq_false hneg, hlim, hless, SB, Nat.reduceLT, callee, aOp, ne_eq, Nat.reduceEqDiff, aBin, aUn, if_true, if_false, reduceCtorEq, frame0, place, notTuple, Nat.reduceAdd, Nat.reduceLeDiff, resVal, dite_true, dite_false, Int.reduceEq, Int.reduceLT, Int.reduceLE]
    exact hN (m + 1) _ _ ⟨by omega, hC.app, hPI.app _, by rw [et]; exact (Ext.refl.app).cells hB1, hframe _ (fun j hj => by
      simp only [upd]
      repeat rw [if_neg (by omega)]), by rfl⟩ (by omega)
  | false =>
    rw [hb] at hless
    rw [pickR, if_neg (by rw [hb]; decide)] at et
    simp only [n89, r89, g5, g6, g12, g13, l0, l1, xj, w1, w2, w3, i0, hlimG, XB, eq_false hneg, hlim, hless, e3, SB, Nat.reduceLT, callee, aOp, ne_eq, Nat.reduceEqDiff, aBin, aUn, if_true, if_false, reduceCtorEq, frame0, place, notTuple, Nat.reduceAdd, Nat.reduceLeDiff, resVal, dite_true, dite_false, Int.reduceEq, Int.reduceLT, Int.reduceLE]
    exact hN (m + 1) _ _ ⟨by omega, (hC.mut m3 (.inl (by simp))).app, (hPI.chg (Chg.refl.mut m3 (.inl hS))).app _, by rw [et]; exact (Ext.refl.app).cells h3, hframe _ (fun j hj => by
      simp only [upd]
      repeat rw [if_neg (by omega)]), by rfl⟩ (by omega)
theorem best_ok [OB] {lim R M : Nat} {pp pl pe : Option Addr} {P : List Int} {L : List Leg} {cp cl ce : Nat} {es : List Ev} {H : Heap} {Q : Value → Heap → Prop} (h : PI lim R M [] H pp pl cp cl P L) (hlim : lim ≤ H.length)
    (hs : Sl H encE 7 pe es) (h40 : es.length ≤ 40) (ht : ∀ i, i < es.length → 0 ≤ (gt es i).time ∧ (gt es i).time ≤ maxTime)
    (hQ : ∀ G q cq, Chg [M] H G → PI lim R M [] G pp pl cp cl P L → Own H.length G encI 1 q cq (bestN P L es) → Q (.slice q (bestN P L es).length cq) G) :
    CallR E false lim 89 [.pointer (some ⟨R, 0, none⟩), .slice pe es.length ce] H Q := by
  refine runs' (by decide) e89 rfl ?_
  rw [b89, c89]
  have w1 : IntKind.i64.wrap ((es.length : Int) - 1) = (es.length : Int) - 1 := wrap_id (by omega) (by omega)
  have z3 := zeros3 es.length
  have hMl := h.alive
  have hms := eq_true (show 0 ≤ (es.length : Int) ∧ (es.length : Int) * 24 ≤ 2 ^ 45 ∧ (es.length : Int) < 2 ^ 62 by omega)
  simp only [n89, r89, w1, hms, z3, SB, Nat.reduceLT, callee, aOp, ne_eq, Nat.reduceEqDiff, aBin, aUn, if_true, if_false, reduceCtorEq, frame0, place, notTuple, Nat.reduceAdd, Nat.reduceLeDiff, resVal, dite_true, dite_false, Int.reduceEq, Int.reduceLT, Int.reduceLE]
  refine Ret_rounds (fun k => es.length - k) (fun k fr G => k ≤ es.length ∧ fr 0 = .pointer (some ⟨R, 0, none⟩) ∧ fr 1 = .slice pe es.length ce ∧ fr 5 = .slice (some ⟨H.length, 0, none⟩) es.length es.length ∧ fr 6 = .func (.func 115) #[] #[] ∧ fr 7 = .int .i64 ((es.length : Int) - 1 - k) ∧ Chg [M] H G ∧ PI lim R M [H.length] G pp pl cp cl P L ∧ hget G H.length = .cells false ((tableN P L es k).flatMap enc3)) 0
    ⟨Nat.zero_le _, (by simp only [FB, Nat.reduceEqDiff]), (by simp only [FB, Nat.reduceEqDiff]), (by simp only [FB, Nat.reduceEqDiff]), (by simp only [FB, Nat.reduceEqDiff]), by rw [show ((es.length : Int) - 1 - ((0 : Nat) : Int)) = (es.length : Int) - 1 by omega]; rfl, Chg.refl.app, h.grow _ (Nat.le_refl _) (by simp), by rw [hget_new0]; rfl⟩ ?_
  · intro k fr G ⟨hk, g0, g1, g5, g6, g7, hC, hPI, hT⟩ hN
    rw [Ret_code l89_4.eq_1]
    refine Ret_pad ?_
    by_cases hlt : k < es.length
    case neg =>
      obtain rfl : k = es.length := by omega
      have e7 : (es.length : Int) - 1 - (es.length : Int) = -1 := by omega
      rw [e7] at g7
      have hlimG : lim ≤ G.length := by have := hC.len; omega
      simp only [n89, r89, g0, g1, g5, g6, g7, w1, hlimG, SB, Nat.reduceLT, callee, aOp, ne_eq, Nat.reduceEqDiff, aBin, aUn, if_true, if_false, reduceCtorEq, frame0, place, notTuple, Nat.reduceAdd, Nat.reduceLeDiff, resVal, dite_true, dite_false, Int.reduceEq, Int.reduceLT, Int.reduceLE]
      have hTl := tableN_len (P := P) (L := L) (es := es) es.length
      have hTb := tableN_bnd (P := P) (L := L) (es := es) es.length (Nat.le_refl _)
      have hHG := hget_alive hT
      rw [tsl hTl] at g5
      refine top_ok (B := G.length) (BT := H.length) (n := es.length) (T := tableN P L es es.length) (R := R) (M := M) (S := [G.length, H.length]) (P := P) (L := L) (pp := pp) (pl := pl) (cp := cp) (cl := cl) (pe := pe) (ce := ce) (ct := es.length) hlimG h40 hTl (fun j hj => hTb j hj) (hPI.grow _ (Nat.le_refl _) (by simp)) (by simp) (by omega) ((Ext.refl.app).cells hT) (by rw [hget_new0]; rfl) (by simp only [g1, FB, Nat.reduceEqDiff]) (by simp only [g5, FB, Nat.reduceEqDiff]) (by simp only [g6, FB, Nat.reduceEqDiff]) (by simp only [FB, Nat.reduceEqDiff]) (by simp only [FB, Nat.reduceEqDiff]) fun fr' G1 hC1 hPI1 hB1 hfr => ?_
      have q5 : fr' 5 = .slice (some ⟨H.length, 0, none⟩) (tableN P L es es.length).length es.length := (hfr 5 (by decide)).trans (by simp only [g5, FB, Nat.reduceEqDiff])
      have q12 : fr' 12 = .pointer (some ⟨G.length, 0, none⟩) := (hfr 12 (by decide)).trans (by simp only [FB, Nat.reduceEqDiff])
      have hl1 := hC1.len
      simp at hl1
      have hT1 := hC1.cells ((Ext.refl.app).cells hT) (by simp; omega)
      simp only [enc3] at hB1
      have XB := fun X => (Ext.refl.app (X := X)).cells hB1
      have htn := topN_next (n := es.length) (T := tableN P L es es.length) es.length (Nat.le_refl _)
      have hC' : Chg [M] H G1 := (hC.app (X := [.cells false [.int .i64 0, .int .i64 0, .int .i64 (-1)]])).trans' hC1 fun j hj hjl => by simp at hj; omega
      refine Ret_pad ?_
      simp only [n89, r89, q5, q12, XB, SB, Nat.reduceLT, callee, aOp, ne_eq, Nat.reduceEqDiff, aBin, aUn, if_true, if_false, reduceCtorEq, frame0, place, notTuple, Nat.reduceAdd, Nat.reduceLeDiff, resVal, dite_true, dite_false, Int.reduceEq, Int.reduceLT, Int.reduceLE]
      refine Ret_rounds (fun s : Nat × Int × List Int × Option Addr × Nat => s.1) (fun s fr G => fr 5 = .slice (some ⟨H.length, 0, none⟩) (tableN P L es es.length).length es.length ∧ fr 16 = .int .i64 s.2.1 ∧ fr 15 = .slice s.2.2.2.1 s.2.2.1.length s.2.2.2.2 ∧ Chg [M] H G ∧ PI lim R M (opB s.2.2.2.1 ++ [H.length]) G pp pl cp cl P L ∧ hget G H.length = .cells false ((tableN P L es es.length).flatMap enc3) ∧ Own (H.length + 1) G encI 1 s.2.2.2.1 s.2.2.2.2 s.2.2.1 ∧
          s.2.2.1 ++ chainN (tableN P L es es.length) s.1 s.2.1 = bestN P L es ∧ s.2.1 < es.length ∧ (s.2.1 < 0 ∨ (es.length : Int) - s.2.1 ≤ s.1) ∧ s.2.2.1.length + s.1 = es.length) (es.length, (topN es.length (tableN P L es es.length) es.length).2.2, [], none, 0)
        ⟨(by simp only [q5, FB, Nat.reduceEqDiff]), (by simp only [FB, Nat.reduceEqDiff]), by rfl, hC'.app, (hPI1.sub (fun q hq => by simp [opB] at hq; simp [hq])).app _, (Ext.refl.app).cells hT1, .nil, rfl, htn.1, by simp only; omega, by simp⟩ ?_
      rintro ⟨f, x, l, pw, cw⟩ fr G ⟨g5, g16, g15, hC, hPI, hT, hO, hch, hx, hf, hll⟩ hN
      simp only at g5 g16 g15 hPI hO hch hx hf hll
      rw [Ret_code l89_1.eq_1]
      refine Ret_pad ?_
      by_cases hx0 : 0 ≤ x
      case neg =>
        have e : chainN (tableN P L es es.length) f x = [] := by
          cases f with
          | zero => rfl
          | succ f => rw [chainN, if_pos (by omega)]
        rw [e, List.append_nil] at hch
        subst hch
        simp only [n89, r89, g5, g16, g15, eq_false hx0, SB, Nat.reduceLT, callee, aOp, ne_eq, Nat.reduceEqDiff, aBin, aUn, if_true, if_false, reduceCtorEq, frame0, place, notTuple, Nat.reduceAdd, Nat.reduceLeDiff, resVal, dite_true, dite_false, Int.reduceEq, Int.reduceLT, Int.reduceLE]
        exact hQ _ _ _ hC.app ((hPI.sub (fun q hq => by cases hq)).app _) ((hO.le (by omega)).app _)
      obtain ⟨j, rfl⟩ := Int.eq_ofNat_of_zero_le hx0
      obtain ⟨f, rfl⟩ : ∃ g, f = g + 1 := ⟨f - 1, by omega⟩
      rw [chainN, if_neg (by omega), Int.toNat_natCast] at hch
      have hjn : j < (tableN P L es es.length).length := by omega
      have hnx := tableN_next (P := P) (L := L) (es := es) es.length (Nat.le_refl _) j (by omega) (by omega)
      have hHl := hget_alive hT
      obtain ⟨G4, e4, O4, C4, hl4⟩ := Own.moreF hO (lim' := lim) (bytes := 8) (by omega) encI_len (by decide) [(j : Int)] (by simp) (by simp; unfold maxBytes; omega) (by simp; omega) [.cells false [.int .i64 (j : Int)]] (x := .slice (some ⟨G.length, 0, none⟩) 1 1) (str := false)
        (first_slice (m := [(j : Int)]) (Sl.row (ro := false) encI_len (by rw [hget_new0]; rfl))) rfl
      have hpw : ∀ j, j ∈ opB pw → H.length + 1 ≤ j ∧ j < G.length := fun j hj => by
        cases hpe : pw with
        | none => rw [hpe] at hj; cases hj
        | some a => rw [hpe] at hj; have := hO.block hpe; simp [opB] at hj; omega
      generalize hp' : (G ++ [Blk.cells false [.int .i64 (j : Int)]]).length = r at e4 O4 hl4
      have hr' : G.length ≤ r := by rw [← hp']; simp
      generalize loose 1 = c' at e4 O4
      simp only [List.length_cons, List.length_nil, Nat.zero_add] at e4
      have hT4 := C4.cells hT fun hm => by have := hpw _ hm; omega
      have hs4 := Sl.row (R := H.length) (ro := false) enc3_len hT4
      have l2 := fun X => (hs4.app X).loadCell enc3_len hjn (j := 2) (by decide)
      simp only [enc3, List.getElem?_cons_zero, List.getElem?_cons_succ] at l2
      have xj := fun c (k : IntKind) (H1 : Heap) => hs4.idx (c := c) (k := k) (H1 := H1) hjn
      simp only [n89, r89, g5, g16, g15, e4, l2, xj, eq_true hx0, SB, Nat.reduceLT, callee, aOp, ne_eq, Nat.reduceEqDiff, aBin, aUn, if_true, if_false, reduceCtorEq, frame0, place, notTuple, Nat.reduceAdd, Nat.reduceLeDiff, resVal, dite_true, dite_false, Int.reduceEq, Int.reduceLT, Int.reduceLE]
      have k1 := (hPI.growC (b := r) (G' := G4) (C4.mono fun q _ hq => List.mem_append_left _ hq) hr' hl4).sub (S' := opB (some ⟨r, 0, none⟩) ++ [H.length]) fun q hq => by
        simp [opB] at hq
        rcases hq with e | e
        · simp [e]
        · simp [e]
      have hx2 : (gt (tableN P L es es.length) j).2.2 < es.length ∧ ((gt (tableN P L es es.length) j).2.2 < 0 ∨ (es.length : Int) - (gt (tableN P L es es.length) j).2.2 ≤ (f : Int)) := by
        rcases hnx with e | e
        · exact ⟨by omega, .inl (by omega)⟩
        · exact ⟨e.2, .inr (by omega)⟩
      exact hN (f, (gt (tableN P L es es.length) j).2.2, l ++ [(j : Int)], some ⟨r, 0, none⟩, c') _ _ ⟨(by simp only [g5, FB, Nat.reduceEqDiff]), by rfl, by show _ = Value.slice _ (l ++ [(j : Int)]).length _; rw [List.length_append]; rfl,
        (hC.trans' C4 fun q hq hql => by have := hpw q hq; omega).app, k1.app _, (Ext.refl.app).cells hT4, (O4.le (by omega)).app _, by rw [List.append_assoc]; exact hch, hx2.1, hx2.2, by simp only [List.length_append, List.length_singleton]; omega⟩ (by show f < f + 1; omega)
    generalize hi : es.length - 1 - k = i
    have e7 : (es.length : Int) - 1 - (k : Int) = (i : Int) := by omega
    rw [e7] at g7
    have hie : i < es.length := by omega
    have w2 : IntKind.i64.wrap ((es.length : Int) - 1 - i) = (es.length : Int) - 1 - i := wrap_id (by omega) (by omega)
    have w3 : IntKind.i64.wrap (30 * ((es.length : Int) - 1 - i)) = 30 * ((es.length : Int) - 1 - i) := wrap_id (by omega) (by omega)
    have w4 : IntKind.i64.wrap ((i : Int) - 1) = (es.length : Int) - 1 - ((k + 1 : Nat) : Int) := by rw [wrap_id (by omega) (by omega)]; omega
    have hlimG : lim ≤ G.length := by have := hC.len; omega
    have i0 := eq_true (show (0 : Int) ≤ (i : Int) by omega)
    have hTl := tableN_len (P := P) (L := L) (es := es) k
    have hHG := hget_alive hT
    simp only [n89, r89, g0, g1, g5, g6, g7, w1, w2, w3, hlimG, i0, SB, Nat.reduceLT, callee, aOp, ne_eq, Nat.reduceEqDiff, aBin, aUn, if_true, if_false, reduceCtorEq, frame0, place, notTuple, Nat.reduceAdd, Nat.reduceLeDiff, resVal, dite_true, dite_false, Int.reduceEq, Int.reduceLT, Int.reduceLE]
    rw [tsl hTl] at g5
    refine inner_ok (B8 := G.length) (BT := H.length) (S := [G.length, H.length]) (i := i) (T := tableN P L es k) (P := P) (L := L) (R := R) (M := M) (pp := pp) (pl := pl) (cp := cp) (cl := cl) (es := es) (pe := pe) (ce := ce) (ct := es.length) hie hlimG (by simp) (by simp) h40 ht hTl (bnd_small h40 hTl (tableN_bnd k (by omega)))
      (hPI.grow _ (Nat.le_refl _) (by simp)) (((hs.sim (h.chgk hC))).app _) ((Ext.refl.app).cells hT) (by rw [hget_new0]; rfl) (by simp only [g0, FB, Nat.reduceEqDiff]) (by simp only [g1, FB, Nat.reduceEqDiff]) (by simp only [g5, FB, Nat.reduceEqDiff]) (by simp only [g6, FB, Nat.reduceEqDiff]) (by simp only [g7, FB, Nat.reduceEqDiff]) (by simp only [FB, Nat.reduceEqDiff]) (by simp only [FB, Nat.reduceEqDiff]) fun fr' G1 hC1 hPI1 hB1 hfr => ?_
    have q0 : fr' 0 = .pointer (some ⟨R, 0, none⟩) := (hfr 0 (by decide)).trans (by simp only [g0, FB, Nat.reduceEqDiff])
    have q1 : fr' 1 = .slice pe es.length ce := (hfr 1 (by decide)).trans (by simp only [g1, FB, Nat.reduceEqDiff])
    have q5 : fr' 5 = .slice (some ⟨H.length, 0, none⟩) (tableN P L es k).length es.length := (hfr 5 (by decide)).trans (by simp only [g5, FB, Nat.reduceEqDiff])
    have q6 : fr' 6 = .func (.func 115) #[] #[] := (hfr 6 (by decide)).trans (by simp only [g6, FB, Nat.reduceEqDiff])
    have q7 : fr' 7 = .int .i64 (i : Int) := (hfr 7 (by decide)).trans (by simp only [g7, FB, Nat.reduceEqDiff])
    have q8 : fr' 8 = .pointer (some ⟨G.length, 0, none⟩) := (hfr 8 (by decide)).trans (by simp only [FB, Nat.reduceEqDiff])
    have hkm : es.length - 1 - i = k := by omega
    rw [hkm] at hB1
    have hMH : H.length ∉ [M, G.length] := by simp; omega
    have hT1 := hC1.cells ((Ext.refl.app).cells hT) hMH
    obtain ⟨G2, e2, h2, m2⟩ := store_mut (lim := lim) (p := some ⟨H.length, 0, none⟩) enc3_len rfl hT1 hlim (i := i) (by rw [hTl]; exact hie) (rowUp P L es (tableN P L es k) i k)
    have xT := fun c (kk : IntKind) (H1 : Heap) => (Sl.row (R := H.length) (ro := false) enc3_len hT1).idx (c := c) (k := kk) (H1 := H1) (i := i) (by rw [hTl]; exact hie)
    have XB := fun X => (Ext.refl.app (X := X)).cells hB1
    have et : tableN P L es (k + 1) = (tableN P L es k).set i (rowUp P L es (tableN P L es k) i k) := by rw [tableN, hi]
    refine Ret_pad ?_
    simp only [n89, r89, q0, q1, q5, q6, q7, q8, XB, enc3_len, take_all, e2, xT, w4, SB, Nat.reduceLT, callee, aOp, ne_eq, Nat.reduceEqDiff, aBin, aUn, if_true, if_false, reduceCtorEq, frame0, place, notTuple, Nat.reduceAdd, Nat.reduceLeDiff, resVal, dite_true, dite_false, Int.reduceEq, Int.reduceLT, Int.reduceLE]
    have hl1 := hC1.len
    simp at hl1
    exact hN (k + 1) _ _ ⟨by omega, (by simp only [q0, FB, Nat.reduceEqDiff]), (by simp only [q1, FB, Nat.reduceEqDiff]), (by simp only [q5, hTl, FB, Nat.reduceEqDiff]), (by simp only [q6, FB, Nat.reduceEqDiff]), (by simp only [FB, Nat.reduceEqDiff]), (((hC.app (X := [.cells false (enc3 (rowUp P L es (tableN P L es k) i 0))])).trans' hC1 fun j hj hjl => by simp at hj; simp; omega).mut m2 (.inr (by omega))).app, ((hPI1.chg (Chg.refl.mut m2 (.inl (by simp)))).sub (fun q hq => by simp at hq; simp [hq])).app _, by rw [et]; exact (Ext.refl.app).cells h2⟩ (by omega)
theorem Best_ok [OB] {lim : Nat} {pp pl pe : Option Addr} {P : List Int} {L : List Leg} {cp cl ce : Nat} {es : List Ev} {H : Heap} {Q : Value → Heap → Prop} (hn : NetIn H pp pl P L) (hlim : lim ≤ H.length)
    (hs : Sl H encE 7 pe es) (hsl : es.length < 2 ^ 62)
    (hbad : ∀ G, errI P L es ≠ 0 → Chg [] H G → Q (.tuple #[.agg #[.slice none 0 0, .slice none 0 0, .int .i64 0], .int .i64 (errI P L es)]) G)
    (hok : ∀ G q cq r cr, errI P L es = 0 → Chg [] H G → Mine H.length G encI 1 q (bestN P L es) → Mine H.length G enc3 3 r (stepsN P L es (bestN P L es)) → Q (.tuple #[.agg #[.slice q (bestN P L es).length cq, .slice r (stepsN P L es (bestN P L es)).length cr, .int .i64 (costN P L es (bestN P L es))], .int .i64 0]) G) :
    CallR E false lim 41 [.agg (netV pp P.length cp pl L.length cl).toArray, .slice pe es.length ce] H Q := by
  refine runs' (by decide) e41 rfl ?_
  rw [b41, c41]
  have hck' := fun X (mp : Bool) (lim : Nat) (Q : Value → Heap → Prop) => check_ok (mp := mp) (lim := lim) (cp := cp) (cl := cl) (ce := ce) (Q := Q) (hn.app X) (hs.app X) (by omega)
  by_cases h0 : errI P L es = 0
  case neg =>
    simp only [n41, r41, netV_len, netV_0, netV_1, take_all, hck', eq_false h0, hlim, SB, Nat.reduceLT, callee, aOp, ne_eq, Nat.reduceEqDiff, aBin, aUn, if_true, if_false, reduceCtorEq, frame0, place, notTuple, Nat.reduceAdd, Nat.reduceLeDiff, resVal, dite_true, dite_false, Int.reduceEq, Int.reduceLT, Int.reduceLE]
    exact hbad _ h0 Chg.refl.app
  obtain ⟨hv0, h40, hev⟩ := errI_0 h0
  have ht := fun i (hi : i < es.length) => And.intro (hev i hi).2.1 (hev i hi).2.2.1
  simp only [n41, r41, netV_len, netV_0, netV_1, take_all, hck', eq_true h0, hlim, SB, Nat.reduceLT, callee, aOp, ne_eq, Nat.reduceEqDiff, aBin, aUn, if_true, if_false, reduceCtorEq, frame0, place, notTuple, Nat.reduceAdd, Nat.reduceLeDiff, resVal, dite_true, dite_false, Int.reduceEq, Int.reduceLT, Int.reduceLE]
  refine newPricer_ok (lim := lim) (hn.app _) (by simp; omega) fun G1 R M hE1 hR hM hPI => ?_
  have hl1 := hE1.len
  simp at hl1 hR hM
  have hE1H : Ext H G1 := (Ext.refl.app).trans hE1
  have r4 : hget G1 (H.length + 1) = .cells false [.slice none 0 0, .slice none 0 0, .int .i64 0] := hE1.cells (by rw [hget_new]; rfl)
  refine Ret_pad ?_
  simp only [n41, r41, SB, Nat.reduceLT, callee, aOp, ne_eq, Nat.reduceEqDiff, aBin, aUn, if_true, if_false, reduceCtorEq, frame0, place, notTuple, Nat.reduceAdd, Nat.reduceLeDiff, resVal, dite_true, dite_false, Int.reduceEq, Int.reduceLT, Int.reduceLE]
  refine best_ok (hPI.app _) (by simp; omega) ((hE1H.sl hs).app _) h40 ht fun G2 q cq hC2 hPI2 hO2 => ?_
  have hl2 := hC2.len
  simp at hl2
  have hC2' : Chg [M] H G2 := ((Ext.chg (A := [M]) hE1H).trans hC2.pre)
  have hC2'' := hC2.pre
  refine Ret_pad ?_
  simp only [n41, r41, SB, Nat.reduceLT, callee, aOp, ne_eq, Nat.reduceEqDiff, aBin, aUn, if_true, if_false, reduceCtorEq, frame0, place, notTuple, Nat.reduceAdd, Nat.reduceLeDiff, resVal, dite_true, dite_false, Int.reduceEq, Int.reduceLT, Int.reduceLE]
  refine path_ok (hPI2.app _) (by simp; omega) (((hE1H.sl hs).sim (hPI.chgk hC2'')).app _) h40 ht ((hO2.sl encI_len).app _) (by have := chainN_len (T := tableN P L es es.length) es.length (topN es.length (tableN P L es es.length) es.length).2.2; unfold bestN; omega) (fun hq => by
    rcases hO2 with ⟨_, _, k⟩ | ⟨R, k, _⟩
    · exact k
    · rw [hq] at k; cases k) bestN_mem fun G3 q' cq' r cr hC3 hPI3 hq hr => ?_
  have r4' := hC3.cells ((Ext.refl.app (X := [])).cells (hC2''.cells r4 (by simp; omega))) (by simp; omega)
  obtain ⟨G4, e4, h4, m4⟩ := mut_set (hget_alive r4') (.cells false [.slice q' (bestN P L es).length cq', .slice r (stepsN P L es (bestN P L es)).length cr, .int .i64 (costN P L es (bestN P L es))])
  have x6 := fun X => (Ext.refl.app (X := X)).cells r4'
  have x7 := fun X => (Ext.refl.app (X := X)).cells h4
  have hlim1 : lim ≤ H.length + 1 := by omega
  refine Ret_pad ?_
  simp only [n41, r41, x6, e4, x7, hlim1, SB, Nat.reduceLT, callee, aOp, ne_eq, Nat.reduceEqDiff, aBin, aUn, if_true, if_false, reduceCtorEq, frame0, place, notTuple, Nat.reduceAdd, Nat.reduceLeDiff, resVal, dite_true, dite_false, Int.reduceEq, Int.reduceLT, Int.reduceLE]
  exact hok _ q' cq' r cr h0 ((((Ext.chg (A := []) hE1H).trans' hC2'' fun j hj hjl => by simp at hj; omega).trans' hC3.pre fun j hj hjl => by simp at hj; omega).mut m4 (.inr (by omega))).app (((hq.mut m4 (by simp; omega)).le (by simp; omega)).app _) (((hr.mut m4 (by simp; omega)).le (by simp; omega)).app _)
def lq1 : Leg := ⟨1, 1, 2, 600, 60, 0, 1000, 127⟩
def P2 : List Int := [1, 2]
def L2 : List Leg := [lq1]
def seenE (p t : Int) : Ev := ⟨7, p, 1, 2, t, t, t⟩
theorem val2 : validN P2 L2 = 0 := by decide
theorem net2 {L : List Leg} (h : validN P2 L = 0) : NetOk 2 P2 L (posN P2) := by
  have := valid_net h
  exact ⟨this.fine, this.frm, this.dst, this.inj, fun a ha => List.idxOf_lt_length_of_mem ha⟩
theorem p21 : posN P2 1 = 0 := rfl
theorem p22 : posN P2 2 = 1 := rfl
theorem qn1 : nextD lq1 500 = some 600 := nx 0 rfl (by decide) (by decide) (by decide) (by decide) (by decide)
theorem qn2 : nextD lq1 200 = some 600 := nx 0 rfl (by decide) (by decide) (by decide) (by decide) (by decide)
theorem v_a : stepA (posN P2) (500 + 86400) L2 [500, -1] = [500, 660] := by simp [stepA, L2, useA, show lq1.frm = 1 from rfl, show lq1.dst = 2 from rfl, show lq1.mins = 60 from rfl, p21, p22, qn1]
theorem v_b : stepA (posN P2) (500 + 86400) L2 [500, 660] = [500, 660] := by simp [stepA, L2, useA, show lq1.frm = 1 from rfl, show lq1.dst = 2 from rfl, show lq1.mins = 60 from rfl, p21, p22, qn1]
theorem v_c : stepA (posN P2) (200 + 86400) L2 [200, -1] = [200, 660] := by simp [stepA, L2, useA, show lq1.frm = 1 from rfl, show lq1.dst = 2 from rfl, show lq1.mins = 60 from rfl, p21, p22, qn2]
theorem v_d : stepA (posN P2) (200 + 86400) L2 [200, 660] = [200, 660] := by simp [stepA, L2, useA, show lq1.frm = 1 from rfl, show lq1.dst = 2 from rfl, show lq1.mins = 60 from rfl, p21, p22, qn2]
theorem v_e : stepA (posN P2) (500 + 86400) L2 [-1, 500] = [-1, 500] := by simp [stepA, L2, useA, show lq1.frm = 1 from rfl, show lq1.dst = 2 from rfl, show lq1.mins = 60 from rfl, p21, p22]
theorem arr2 {p r q : Int} {A : List Int} {k : Nat} (hp : p ∈ P2) (hq : q ∈ P2) (hr : 0 ≤ r) (hk : arrK 2 (posN P2) (r + 86400) L2 p r k = A) (hs : stepA (posN P2) (r + 86400) L2 A = A) : arrV P2 L2 p r q = A.getD (posN P2 q) (-1) := by
  have h1 := arrK_all (net2 val2) hp hr (by omega : r ≤ r + 86400) (k := k) (by rw [arrK, hk, hs]) q hq
  rw [hk] at h1
  have h2 : IsArr L2 p r q (arrV P2 L2 p r q) := arrV_is (valid_net val2) hp hq hr
  exact h2.uniq h1
theorem u_a : arrV P2 L2 1 500 2 = 660 := arr2 (k := 1) (A := [500, 660]) (by decide) (by decide) (by decide) (by rw [arrK, arrK]; exact v_a) v_b
theorem u_b : arrV P2 L2 1 200 2 = 660 := arr2 (k := 1) (A := [200, 660]) (by decide) (by decide) (by decide) (by rw [arrK, arrK]; exact v_c) v_d
theorem u_c : arrV P2 L2 2 500 1 = -1 := arr2 (k := 0) (A := [-1, 500]) (by decide) (by decide) (by decide) (by rw [arrK]; rfl) v_e
theorem pr_eq {p t q s v : Int} (hv : arrV P2 L2 p t q = v) (h2 : ¬ p = q) (hq : q ∈ P2) (he : errA P2 L2 p p t = 0) : priceN P2 L2 (seenE p t) (seenE q s) = if v < 0 then 80 else min (max (v - s) 0) 60 := by
  unfold priceN
  show (if (2 : Int) = 4 then (80 : Int) else if p = q then 0 else if q ∉ P2 then 80 else if errA P2 L2 p p t ≠ 0 then 80 else if arrV P2 L2 p t q < 0 then 80 else min (max (arrV P2 L2 p t q - s) 0) 60) = _
  rw [if_neg (by decide), if_neg h2, if_neg (by simpa using hq), if_neg (by simpa using he), hv]
theorem x_a : priceN P2 L2 (seenE 1 500) (seenE 2 660) = 0 := (pr_eq u_a (by decide) (by decide) (by decide)).trans (by decide)
theorem x_b : priceN P2 L2 (seenE 1 500) (seenE 2 650) = 10 := (pr_eq u_a (by decide) (by decide) (by decide)).trans (by decide)
theorem x_c : priceN P2 L2 (seenE 1 200) (seenE 2 300) = 60 := (pr_eq u_b (by decide) (by decide) (by decide)).trans (by decide)
theorem x_d : priceN P2 L2 (seenE 2 500) (seenE 1 5000) = 80 := (pr_eq u_c (by decide) (by decide) (by decide)).trans (by decide)
theorem x_e : priceN P2 L2 (seenE 1 500) (seenE 2 510) = 60 := (pr_eq u_a (by decide) (by decide) (by decide)).trans (by decide)
theorem x_f : priceN P2 L2 (seenE 2 510) (seenE 2 660) = 0 := rfl
theorem i_a : errI P2 L2 [seenE 1 500, seenE 2 660] = 0 := by decide
theorem i_b : errI P2 L2 [seenE 1 500, seenE 2 650] = 0 := by decide
theorem i_c : errI P2 L2 [seenE 1 200, seenE 2 300] = 0 := by decide
theorem i_d : errI P2 L2 [seenE 2 500, seenE 1 5000] = 0 := by decide
def E3 : List Ev := [seenE 1 500, seenE 2 510, seenE 2 660]
theorem i_e : errI P2 L2 E3 = 0 := by decide
theorem i_f : errC P2 L2 E3 [0, 1, 2] = 0 := by decide
theorem ge0 : gt E3 0 = seenE 1 500 := rfl
theorem ge1 : gt E3 1 = seenE 2 510 := rfl
theorem ge2 : gt E3 2 = seenE 2 660 := rfl
theorem tb1 : tableN P2 L2 E3 1 = [(0, 0, 0), (0, 0, 0), (0, 1, -1)] := rfl
theorem tb2 : tableN P2 L2 E3 2 = [(0, 0, 0), (0, 2, 2), (0, 1, -1)] := by
  rw [tableN, tb1]
  have : candN P2 L2 E3 [(0, 0, 0), (0, 0, 0), (0, 1, -1)] 1 2 = (0, 2, 2) := by unfold candN; rw [ge1, ge2, x_f]; rfl
  show List.set _ 1 (pickR (30, 1, -1) (candN P2 L2 E3 [(0, 0, 0), (0, 0, 0), (0, 1, -1)] 1 2)) = _
  rw [this]; rfl
theorem tb3 : tableN P2 L2 E3 3 = [(30, 2, 2), (0, 2, 2), (0, 1, -1)] := by
  rw [tableN, tb2]
  have a2 : candN P2 L2 E3 [(0, 0, 0), (0, 2, 2), (0, 1, -1)] 0 2 = (30, 2, 2) := by unfold candN; rw [ge0, ge2, x_a]; rfl
  have a1 : candN P2 L2 E3 [(0, 0, 0), (0, 2, 2), (0, 1, -1)] 0 1 = (60, 3, 1) := by unfold candN; rw [ge0, ge1, x_e]; rfl
  show List.set _ 0 (pickR (pickR (60, 1, -1) (candN P2 L2 E3 [(0, 0, 0), (0, 2, 2), (0, 1, -1)] 0 2)) (candN P2 L2 E3 [(0, 0, 0), (0, 2, 2), (0, 1, -1)] 0 1)) = _
  rw [a2, a1]; rfl
theorem best3 : bestN P2 L2 E3 = [0, 2] := by
  show chainN (tableN P2 L2 E3 3) 3 (topN 3 (tableN P2 L2 E3 3) 3).2.2 = _
  rw [tb3]; rfl
theorem steps3 : stepsN P2 L2 E3 [0, 2] = [(0, 2, 0)] := by
  show [(0, 2, priceN P2 L2 (seenE 1 500) (seenE 2 660))] = _
  rw [x_a]
theorem cost3 : costN P2 L2 E3 [0, 2] = 30 := by rw [costN, steps3]; rfl
theorem steps4 : stepsN P2 L2 E3 [0, 1, 2] = [(0, 1, 60), (1, 2, 0)] := by
  show [(0, 1, priceN P2 L2 (seenE 1 500) (seenE 2 510)), (1, 2, 0)] = _
  rw [x_e]
theorem cost4 : costN P2 L2 E3 [0, 1, 2] = 60 := by rw [costN, steps4]; rfl
def exaF (P : List Int) (L : List Leg) (T : List Int) : Nat → List Int
  | 0 => T
  | k + 1 => stepX 50 (posN P) L (exaF P L T k)
theorem exaF_exaK {P : List Int} {L : List Leg} {q dl : Int} : ∀ k, exaF P L (oneT 50 (posN P q) dl) k = exaK 50 (posN P) L q dl k
  | 0 => rfl
  | k + 1 => by rw [exaF, exaK, exaF_exaK k]
theorem okT_rep : okT (List.replicate 50 (-1)) := ⟨by simp, fun j => by
  rw [List.getD_eq_getElem?_getD, List.getElem?_replicate]; unfold maxTime; split <;> simp⟩
theorem useX_max {pos : Int → Nat} {bef aft : List Int} {l : Leg} {a : Int} (h0 : ¬ bef.getD (pos l.dst) (-1) < 0) (h : lastD l (bef.getD (pos l.dst) (-1)) = some a) : useX pos bef aft l = aft.set (pos l.frm) (max (aft.getD (pos l.frm) (-1)) (a - l.cut)) := by
  unfold useX
  rw [if_neg h0]
  simp only [h]
  congr 1
  split <;> omega
theorem latest_inner [OB] {lim R A10 A11 : Nat} {pl : Option Addr} {P : List Int} {L : List Leg} {cl : Nat} {H G : Heap} {fr : Nat → Value} {K : List AItem} {Z : Value → Heap → Prop} {bef : List Int}
    (hno : NetOk 50 P L (posN P)) (hL : Sl H encL 8 pl L) (hnL : L.length < 2 ^ 62) (hm : hget H R = .map (posV P)) (hlim : lim ≤ H.length) (hb : okT bef) (hE : Chg [] H G) (hA10 : H.length ≤ A10) (hA11 : H.length ≤ A11) (hne : A10 ≠ A11) (h10 : hget G A10 = .cells false (encT bef)) (h11 : hget G A11 = .cells false (encT (List.replicate 50 (-1))))
    (f1 : fr 1 = .map (some R)) (f10 : fr 10 = .pointer (some ⟨A10, 0, none⟩)) (f11 : fr 11 = .pointer (some ⟨A11, 0, none⟩)) (f30 : fr 30 = .slice pl L.length cl) (f31 : fr 31 = .int .i64 (L.length : Int)) (f32 : fr 32 = .int .i64 0)
    (hR : ∀ fr' G', okT (stepX 50 (posN P) L bef) → Chg [A11] G G' → hget G' A11 = .cells false (encT (stepX 50 (posN P) L bef)) → fr' 1 = fr 1 → fr' 4 = fr 4 → fr' 9 = fr 9 → fr' 11 = fr 11 → fr' 19 = fr 19 → fr' 20 = fr 20 → Ret E a73 lim K fr' (G' ++ []) Z) :
    Ret E a73 lim (.code (.loop l73_1) :: .inBlock 2 :: K) fr G Z := by
  refine Ret_rounds (fun i => L.length - i) (fun i fr' G' => i ≤ L.length ∧ fr' 1 = .map (some R) ∧ fr' 4 = fr 4 ∧ fr' 9 = fr 9 ∧ fr' 10 = .pointer (some ⟨A10, 0, none⟩) ∧ fr' 11 = .pointer (some ⟨A11, 0, none⟩) ∧ fr' 19 = fr 19 ∧ fr' 20 = fr 20 ∧ fr' 30 = .slice pl L.length cl ∧ fr' 31 = .int .i64 (L.length : Int) ∧ fr' 32 = .int .i64 (i : Int) ∧
    Chg [A11] G G' ∧ okT ((L.take i).foldl (useX (posN P) bef) (List.replicate 50 (-1))) ∧ hget G' A11 = .cells false (encT ((L.take i).foldl (useX (posN P) bef) (List.replicate 50 (-1))))) 0
    ⟨Nat.zero_le _, f1, rfl, rfl, f10, f11, rfl, rfl, f30, f31, f32, Chg.refl, okT_rep, h11⟩ ?_
  intro i fr' G' ⟨hi, g1, g4, g9, g10, g11, g19, g20, g30, g31, g32, hC, ha, h11'⟩ hN
  have hEG : Chg [] H G' := hE.trans' hC fun j h1 h2 => by simp only [List.mem_singleton] at h1; omega
  have hl := hEG.len
  rw [Ret_code l73_1.eq_1]
  refine Ret_pad ?_
  by_cases hlt : i < L.length
  case neg =>
    obtain rfl : i = L.length := by omega
    rw [List.take_length] at ha h11'
    simp only [n73, r73, g1, g10, g11, g30, g31, g32, hlt, SB, Nat.reduceLT, callee, aOp, ne_eq, Nat.reduceEqDiff, aBin, aUn, if_true, if_false, reduceCtorEq, frame0, place, notTuple, Nat.reduceAdd, Nat.reduceLeDiff, resVal, dite_true, dite_false, Int.reduceEq, Int.reduceLT, Int.reduceLE]
    exact hR _ _ ha hC h11' (by rw [f1]; exact (by simp only [g1, FB, Nat.reduceEqDiff])) (by rw [← g4]; exact (by simp only [FB, Nat.reduceEqDiff])) (by rw [← g9]; exact (by simp only [FB, Nat.reduceEqDiff])) (by rw [f11]; exact (by simp only [g11, FB, Nat.reduceEqDiff])) (by rw [← g19]; exact (by simp only [FB, Nat.reduceEqDiff])) (by rw [← g20]; exact (by simp only [FB, Nat.reduceEqDiff]))
  have hsl := hEG.ext.sl hL
  have hld := fun X => (hsl.app X).loadCells encL_len hlt
  have hidx := fun c (k : IntKind) (H1 : Heap) => hsl.idx (c := c) (k := k) (H1 := H1) hlt
  have hw1 : IntKind.i64.wrap ((i : Int) + 1) = ((i + 1 : Nat) : Int) := wrap_nat (by omega)
  have h10' := hC.cells h10 (by simpa using hne)
  have q1 := fun X => (Ext.refl.app (X := X)).cells h10'
  have q2 := fun X => (Ext.refl.app (X := X)).cells h11'
  have hmG := hEG.get hm (hget_alive' hm) (by simp)
  have q3 : ∀ X, hget (G' ++ X) R = .map (posV P) := fun X => by rw [hget_old (hget_alive' hmG)]; exact hmG
  have hlG : lim ≤ G'.length := by omega
  have hlA : lim ≤ A11 := by omega
  have hin := gt_mem hlt
  have hf := hno.fine _ hin
  have i1 : posN P (gt L i).frm < 50 := hno.lt _ (hno.frm _ hin)
  have i2 : posN P (gt L i).dst < 50 := hno.lt _ (hno.dst _ hin)
  obtain ⟨j1, hj1⟩ := pos_yes (i := 0) (hno.frm _ hin)
  obtain ⟨j2, hj2⟩ := pos_yes (i := 0) (hno.dst _ hin)
  change findKey _ _ _ = some (some (j1, .int .i64 (posN P (gt L i).frm : Int))) at hj1
  change findKey _ _ _ = some (some (j2, .int .i64 (posN P (gt L i).dst : Int))) at hj2
  have hT := foldl_take (f := useX (posN P) bef) (b := List.replicate 50 (-1)) hlt
  generalize (L.take i).foldl (useX (posN P) bef) (List.replicate 50 (-1)) = aft at *
  have hbr := hb.2 (posN P (gt L i).dst)
  have har := ha.2 (posN P (gt L i).frm)
  have gb := encT_get hb.1 i2
  have ga := encT_get ha.1 i1
  have z1 : (0 : Int) ≤ (posN P (gt L i).frm : Int) := by omega
  have z2 : (0 : Int) ≤ (posN P (gt L i).dst : Int) := by omega
  have z3 : (posN P (gt L i).frm : Int) < 50 := by omega
  have z4 : (posN P (gt L i).dst : Int) < 50 := by omega
  have z5 : posN P (gt L i).dst ≤ 49 := by omega
  have z6 : posN P (gt L i).frm ≤ 49 := by omega
  by_cases hbn : bef.getD (posN P (gt L i).dst) (-1) < 0
  · have hu : useX (posN P) bef aft (gt L i) = aft := by unfold useX; rw [if_pos hbn]
    rw [hu] at hT
    simp only [n73, r73, g1, g10, g11, g30, g31, g32, hlt, hld, hidx, hw1, q1, q2, q3, hj1, hj2, gb, ga, z1, z2, z3, z4, z5, z6, encL_len, encL_0, encL_1, encL_2, encL_3, encL_4, encL_5, encL_6, encL_7, take_all, encT_len, Nat.mul_one, hlG, setAll_full, hbn, SB, Nat.reduceLT, callee, aOp, ne_eq, Nat.reduceEqDiff, aBin, aUn, if_true, if_false, reduceCtorEq, frame0, place, notTuple, Nat.reduceAdd, Nat.reduceLeDiff, resVal, dite_true, dite_false, Int.reduceEq, Int.reduceLT, Int.reduceLE]
    exact hN (i + 1) _ _ ⟨by omega, (by simp only [g1, FB, Nat.reduceEqDiff]), by rw [← g4]; exact (by simp only [FB, Nat.reduceEqDiff]), by rw [← g9]; exact (by simp only [FB, Nat.reduceEqDiff]), (by simp only [g10, FB, Nat.reduceEqDiff]), (by simp only [g11, FB, Nat.reduceEqDiff]), by rw [← g19]; exact (by simp only [FB, Nat.reduceEqDiff]), by rw [← g20]; exact (by simp only [FB, Nat.reduceEqDiff]), (by simp only [g30, FB, Nat.reduceEqDiff]), (by simp only [g31, FB, Nat.reduceEqDiff]), (by simp only [FB, Nat.reduceEqDiff]), hC.app, by rw [hT]; exact ha, by rw [hT]; exact (Ext.refl.app).cells h11'⟩ (by omega)
  unfold maxTime at hbr har
  have hnx := fun (H : Heap) (mp : Bool) (lim : Nat) (Q : Value → Heap → Prop) => last_ok (mp := mp) (lim := lim) (H := H) (Q := Q) (l := gt L i) (r := bef.getD (posN P (gt L i).dst) (-1)) hf (by omega) (by omega)
  cases hx : lastD (gt L i) (bef.getD (posN P (gt L i).dst) (-1)) with
  | none =>
    rw [hx] at hnx
    simp only [Option.map_none, depV] at hnx
    have hu : useX (posN P) bef aft (gt L i) = aft := by unfold useX; rw [if_neg hbn]; simp only [hx]
    rw [hu] at hT
    simp only [n73, r73, g1, g10, g11, g30, g31, g32, hlt, hld, hidx, hw1, q1, q2, q3, hj1, hj2, gb, ga, z1, z2, z3, z4, z5, z6, encL_len, encL_0, encL_1, encL_2, encL_3, encL_4, encL_5, encL_6, encL_7, take_all, encT_len, Nat.mul_one, hlG, setAll_full, hbn, hnx, SB, Nat.reduceLT, callee, aOp, ne_eq, Nat.reduceEqDiff, aBin, aUn, if_true, if_false, reduceCtorEq, frame0, place, notTuple, Nat.reduceAdd, Nat.reduceLeDiff, resVal, dite_true, dite_false, Int.reduceEq, Int.reduceLT, Int.reduceLE]
    exact hN (i + 1) _ _ ⟨by omega, (by simp only [g1, FB, Nat.reduceEqDiff]), by rw [← g4]; exact (by simp only [FB, Nat.reduceEqDiff]), by rw [← g9]; exact (by simp only [FB, Nat.reduceEqDiff]), (by simp only [g10, FB, Nat.reduceEqDiff]), (by simp only [g11, FB, Nat.reduceEqDiff]), by rw [← g19]; exact (by simp only [FB, Nat.reduceEqDiff]), by rw [← g20]; exact (by simp only [FB, Nat.reduceEqDiff]), (by simp only [g30, FB, Nat.reduceEqDiff]), (by simp only [g31, FB, Nat.reduceEqDiff]), (by simp only [FB, Nat.reduceEqDiff]), hC.app, by rw [hT]; exact ha, by rw [hT]; exact (Ext.refl.app).cells h11'⟩ (by omega)
  | some a =>
    rw [hx] at hnx
    simp only [Option.map_some, depV] at hnx
    obtain ⟨k1, k2, k3, k4⟩ := lastD_dep hf hx
    unfold maxTime at k3
    have hu := useX_max (aft := aft) hbn hx
    rw [hu] at hT
    unfold Fine at hf
    have wc : IntKind.i64.wrap (a - (gt L i).cut) = a - (gt L i).cut := wrap_id (by omega) (by omega)
    obtain ⟨G2, e2, h2, m2⟩ := mut_set (hget_alive h11') (.cells false (encT (aft.set (posN P (gt L i).frm) (max (aft.getD (posN P (gt L i).frm) (-1)) (a - (gt L i).cut)))))
    simp only [n73, r73, g1, g10, g11, g30, g31, g32, hlt, hld, hidx, hw1, q1, q2, q3, hj1, hj2, gb, ga, z1, z2, z3, z4, z5, z6, encL_len, encL_0, encL_1, encL_2, encL_3, encL_4, encL_5, encL_6, encL_7, take_all, encT_len, Nat.mul_one, hlG, setAll_full, hbn, hnx, wc, hlA, max_v, encT_set ha.1, e2, SB, Nat.reduceLT, callee, aOp, ne_eq, Nat.reduceEqDiff, aBin, aUn, if_true, if_false, reduceCtorEq, frame0, place, notTuple, Nat.reduceAdd, Nat.reduceLeDiff, resVal, dite_true, dite_false, Int.reduceEq, Int.reduceLT, Int.reduceLE]
    exact hN (i + 1) _ _ ⟨by omega, (by simp only [g1, FB, Nat.reduceEqDiff]), by rw [← g4]; exact (by simp only [FB, Nat.reduceEqDiff]), by rw [← g9]; exact (by simp only [FB, Nat.reduceEqDiff]), (by simp only [g10, FB, Nat.reduceEqDiff]), (by simp only [g11, FB, Nat.reduceEqDiff]), by rw [← g19]; exact (by simp only [FB, Nat.reduceEqDiff]), by rw [← g20]; exact (by simp only [FB, Nat.reduceEqDiff]), (by simp only [g30, FB, Nat.reduceEqDiff]), (by simp only [g31, FB, Nat.reduceEqDiff]), (by simp only [FB, Nat.reduceEqDiff]), (hC.mut m2 (.inl (by simp))).app, by rw [hT]; exact okT_set ha (by unfold maxTime; omega), by rw [hT]; exact (Ext.refl.app).cells h2⟩ (by omega)
theorem exaF_okT {P : List Int} {L : List Leg} {T : List Int} (hno : NetOk 50 P L (posN P)) (hT : okT T) : ∀ k, okT (exaF P L T k)
  | 0 => hT
  | k + 1 => by
    rw [exaF, stepX]
    have hb := exaF_okT hno hT k
    generalize exaF P L T k = bef at hb
    suffices h : ∀ (M : List Leg), (∀ l ∈ M, l ∈ L) → ∀ aft, okT aft → okT (M.foldl (useX (posN P) bef) aft) from h L (fun _ h => h) _ okT_rep
    intro M
    induction M with
    | nil => intro _ aft h; exact h
    | cons l M ih =>
      intro hM aft ha
      rw [List.foldl_cons]
      refine ih (fun x hx => hM x (List.mem_cons_of_mem _ hx)) _ ?_
      by_cases h0 : bef.getD (posN P l.dst) (-1) < 0
      · unfold useX; rw [if_pos h0]; exact ha
      · cases hx : lastD l (bef.getD (posN P l.dst) (-1)) with
        | none => unfold useX; rw [if_neg h0]; simp only [hx]; exact ha
        | some a =>
          rw [useX_max h0 hx]
          obtain ⟨k1, k2, k3, k4⟩ := lastD_dep (hno.fine _ (hM l (List.mem_cons_self ..))) hx
          have hf := hno.fine _ (hM l (List.mem_cons_self ..))
          have := ha.2 (posN P l.frm)
          unfold Fine at hf
          exact okT_set ha (by omega)
theorem Own1.le {α : Type} {lim e cap : Nat} {G : Heap} {enc : α → List Value} {p : Option Addr} {l : List α} (h : Own1 lim G enc e p cap l) {lim' : Nat} (hl : lim' ≤ lim) : Own1 lim' G enc e p cap l := by
  rcases h with h | ⟨R, h0, h1, h2, h3, h4⟩
  · exact .inl (h.le hl)
  · exact .inr ⟨R, h0, h1, h2, h3, by omega⟩
theorem latest_ok [OB] {lim R n0 : Nat} {T : List Int} {pp pl : Option Addr} {P : List Int} {L : List Leg} {cp cl : Nat} {H : Heap} {Q : Value → Heap → Prop} (hn : NetIn H pp pl P L) (hno : NetOk 50 P L (posN P)) (hm : hget H R = .map (posV P)) (hT : okT T) (hn0 : n0 < 2 ^ 30) (hnl : L.length < 2 ^ 62) (hlim : lim ≤ H.length)
    (hQ : ∀ H' p cap, Chg [] H H' → Own1 H.length H' encT 50 p cap ((List.range (n0 + 1)).map (exaF P L T)) → Q (.slice p (n0 + 1) cap) H') :
    CallR E false lim 73 [.agg (netV pp P.length cp pl L.length cl).toArray, .map (some R), .agg (encT T).toArray, .int .i64 (n0 : Int)] H Q := by
  refine runs' (by decide) e73 rfl ?_
  rw [b73, c73]
  simp only [n73, r73, zz50, encT_len, take_all, setAll_full, List.length_replicate, SB, Nat.reduceLT, callee, aOp, ne_eq, Nat.reduceEqDiff, aBin, aUn, if_true, if_false, reduceCtorEq, frame0, place, notTuple, Nat.reduceAdd, Nat.reduceLeDiff, resVal, dite_true, dite_false, Int.reduceEq, Int.reduceLT, Int.reduceLE]
  refine Ret_rounds (fun s : Nat × Option Addr × Nat => n0 - s.1) (fun s fr G => s.1 ≤ n0 ∧ fr 1 = .map (some R) ∧ fr 4 = .pointer (some ⟨H.length, 0, none⟩) ∧ fr 9 = .slice s.2.1 (s.1 + 1) s.2.2 ∧ fr 19 = .int .i64 (n0 : Int) ∧ fr 20 = .int .i64 (s.1 : Int) ∧ hget G H.length = .cells false (netV pp P.length cp pl L.length cl) ∧ Chg [] H G ∧ Own1 (H.length + 1) G encT 50 s.2.1 s.2.2 ((List.range (s.1 + 1)).map (exaF P L T))) (0, some ⟨H.length + 2, 0, none⟩, 1)
    ⟨Nat.zero_le _, (by simp only [FB, Nat.reduceEqDiff]), (by simp only [FB, Nat.reduceEqDiff]), by rfl, (by simp only [FB, Nat.reduceEqDiff]), by rfl, hget_new0, Chg.refl.app, .inr ⟨H.length + 2, rfl, rfl, by show (1 : Nat) < 2 ^ 62; decide, by rw [hget_new]; simp [exaF], by omega⟩⟩ ?_
  rintro ⟨k, p, cap⟩ fr G ⟨hk, f1, f4, f9, f19, f20, hB, hE, hO⟩ hN
  simp only at hk f9 f20 hO
  have hl := hE.len
  have hok := exaF_okT hno hT k
  rw [Ret_code l73_2.eq_1]
  refine Ret_pad ?_
  by_cases hkn : k < n0
  case neg =>
    obtain rfl : k = n0 := by omega
    simp only [n73, r73, f1, f4, f9, f19, f20, hkn, SB, Nat.reduceLT, callee, aOp, ne_eq, Nat.reduceEqDiff, aBin, aUn, if_true, if_false, reduceCtorEq, frame0, place, notTuple, Nat.reduceAdd, Nat.reduceLeDiff, resVal, dite_true, dite_false, Int.reduceEq, Int.reduceLT, Int.reduceLE]
    exact hQ _ _ _ hE.app ((hO.chg (A := []) (Chg.refl.app) (by simp)).le (by omega))
  have hlen : ((List.range (k + 1)).map (exaF P L T)).length = k + 1 := by simp
  have hgt : gt ((List.range (k + 1)).map (exaF P L T)) k = exaF P L T k := by
    rw [gt_lt (by rw [hlen]; omega)]; simp
  have hS := hO.sl encT_len
  have hld := fun X => (hS.app X).loadCells encT_len (i := k) (by rw [hlen]; omega)
  have hidx := fun c (kk : IntKind) (H1 : Heap) => hS.idx (c := c) (k := kk) (H1 := H1) (i := k) (by rw [hlen]; omega)
  rw [hlen] at hidx
  rw [hgt] at hld
  have hw1 : IntKind.i64.wrap (((k + 1 : Nat) : Int) - 1) = (k : Int) := by rw [wrap_id (by omega) (by omega)]; omega
  have hw2 : IntKind.i64.wrap ((k : Int) + 1) = ((k + 1 : Nat) : Int) := wrap_nat (by omega)
  have hlG : lim ≤ G.length := by omega
  have h67 : ∀ (H : Heap) (mp : Bool) (lim : Nat) (Q : Value → Heap → Prop), CallR E mp lim 67 [.int .i64 0, .int .i64 (-1)] H Q = Q (.agg (encT (List.replicate 50 (-1))).toArray) H := fun H mp lim Q => one_ok (mp := mp) (lim := lim) (H := H) (Q := Q) (i := 0) (t := -1) (by decide)
  have hBX := fun X => (Ext.refl.app (X := X)).cells hB
  simp only [n73, r73, f1, f4, f9, f19, f20, hkn, h67, hBX, netV_len, netV_0, netV_1, zz50, encT_len, take_all, setAll_full, List.length_replicate, hw1, hidx, hld, hlG, show lim ≤ G.length + 1 by omega, SB, Nat.reduceLT, callee, aOp, ne_eq, Nat.reduceEqDiff, aBin, aUn, if_true, if_false, reduceCtorEq, frame0, place, notTuple, Nat.reduceAdd, Nat.reduceLeDiff, resVal, dite_true, dite_false, Int.reduceEq, Int.reduceLT, Int.reduceLE]
  refine latest_inner (cl := cl) (A10 := G.length) (A11 := G.length + 1) hno hn.sl hnl hm hlim hok hE.app (by omega) (by omega) (by omega) hget_new0 hget_new (by simp only [f1, FB, Nat.reduceEqDiff]) (by simp only [FB, Nat.reduceEqDiff]) (by simp only [FB, Nat.reduceEqDiff]) (by simp only [FB, Nat.reduceEqDiff]) (by simp only [FB, Nat.reduceEqDiff]) (by simp only [FB, Nat.reduceEqDiff]) fun fr' G' hok' hC h11 k1 k4 k9 k11 k19 k20 => ?_
  have k1' : fr' 1 = .map (some R) := k1.trans (by simp only [f1, FB, Nat.reduceEqDiff])
  have k4' : fr' 4 = .pointer (some ⟨H.length, 0, none⟩) := k4.trans (by simp only [f4, FB, Nat.reduceEqDiff])
  have k9' : fr' 9 = .slice p (k + 1) cap := k9.trans (by simp only [f9, FB, Nat.reduceEqDiff])
  have k11' : fr' 11 = .pointer (some ⟨G.length + 1, 0, none⟩) := k11.trans (by simp only [FB, Nat.reduceEqDiff])
  have k19' : fr' 19 = .int .i64 (n0 : Int) := k19.trans (by simp only [f19, FB, Nat.reduceEqDiff])
  have k20' : fr' 20 = .int .i64 (k : Int) := k20.trans (by simp only [f20, FB, Nat.reduceEqDiff])
  have h11X := fun X => (Ext.refl.app (X := X)).cells h11
  have hC' : Chg [] G G' := hC.pre.mono fun j hj h => by simp only [List.mem_singleton] at h; omega
  have hl2 := hC'.len
  have hO' := hO.chg hC' (by simp)
  change okT (exaF P L T (k + 1)) at hok'
  change hget G' (G.length + 1) = .cells false (encT (exaF P L T (k + 1))) at h11
  change ∀ X, hget (G' ++ X) (G.length + 1) = .cells false (encT (exaF P L T (k + 1))) at h11X
  have hHG : H.length < G.length := hget_alive hB
  obtain ⟨G3, e3, O3, C3, hold3, l3, _⟩ := hO'.step (lim' := lim) (bytes := 400) (by omega) encT_len (by decide) (exaF P L T (k + 1)) (by rw [hlen]; unfold maxBytes; omega) (by rw [hlen]; omega) (by omega) [.cells false (encT (exaF P L T (k + 1)))] G'.length 1 hget_new0
  rw [hlen] at e3
  have hlG' : lim ≤ G'.length := by omega
  simp only [n73, r73, k1', k4', k9', k11', k19', k20', h11X, encT_len, take_all, zz50, setAll_full, List.length_replicate, e3, hw2, hlG', SB, Nat.reduceLT, callee, aOp, ne_eq, Nat.reduceEqDiff, aBin, aUn, if_true, if_false, reduceCtorEq, frame0, place, notTuple, Nat.reduceAdd, Nat.reduceLeDiff, resVal, dite_true, dite_false, Int.reduceEq, Int.reduceLT, Int.reduceLE]
  refine hN (k + 1, _, _) _ _ ⟨by omega, (by simp only [k1', FB, Nat.reduceEqDiff]), (by simp only [k4', FB, Nat.reduceEqDiff]), by rfl, (by simp only [k19', FB, Nat.reduceEqDiff]), (by simp only [FB, Nat.reduceEqDiff]), ?_, C3 _ _ (by omega) (hE.trans hC'), .inl ?_⟩ (by show n0 - (k + 1) < n0 - k; omega)
  · rw [List.append_nil] at hold3
    rw [List.append_nil, hold3 H.length (by omega) fun a ha e => by have := (hO'.block ha).1; omega]
    exact hC'.cells hB (by simp)
  · rw [List.range_succ, List.map_append]
    exact O3
theorem at_ok [OB] {mp : Bool} {lim A B i : Nat} {o1 o2 : Bool} {t : Int} {T : List Int} {H : Heap} {Q : Value → Heap → Prop} (hi : i < 50) (hT : T.length = 50) (hA : hget H A = .cells o1 [.int .i64 (i : Int)]) (hB : hget H B = .cells o2 [.int .i64 t]) :
    CallR E mp lim 72 [.agg (encT T).toArray, .pointer (some ⟨A, 0, none⟩), .pointer (some ⟨B, 0, none⟩)] H Q = Q (.bool (decide (T.getD i (-1) = t))) H := by
  refine pc (by decide) e72 rfl rfl ?_
  rw [b72, c72]
  have q1 := fun X => (Ext.refl.app (X := X)).cells hA
  have q2 := fun X => (Ext.refl.app (X := X)).cells hB
  have z1 : (0 : Int) ≤ (i : Int) := by omega
  have z2 : (i : Int) < 50 := by omega
  have z3 : i ≤ 49 := by omega
  have gt := encT_get hT hi
  simp only [n72, r72, q1, q2, encT_len, take_all, gt, z1, z2, z3, Nat.mul_one, SB, Nat.reduceLT, callee, aOp, ne_eq, Nat.reduceEqDiff, aBin, aUn, if_true, if_false, reduceCtorEq, frame0, place, notTuple, Nat.reduceAdd, Nat.reduceLeDiff, resVal, dite_true, dite_false, Int.reduceEq, Int.reduceLT, Int.reduceLE]
theorem index_ok [OB] {mp : Bool} {lim A B i k cap : Nat} {p : Option Addr} {o1 o2 : Bool} {t : Int} {Ts : List (List Int)} {H : Heap} {Q : Value → Heap → Prop} (hi : i < 50) (hA : hget H A = .cells o1 [.int .i64 (i : Int)]) (hB : hget H B = .cells o2 [.int .i64 t]) (hs : Sl H encT 50 p Ts) (hTs : ∀ T ∈ Ts, T.length = 50) (hn : Ts.length < 2 ^ 62)
    (hk : k < Ts.length) (hkt : (gt Ts k).getD i (-1) = t) (hno : ∀ j, j < k → (gt Ts j).getD i (-1) ≠ t) :
    CallR E mp lim 71 [.slice p Ts.length cap, .func (.func 72) #[] #[.pointer (some ⟨A, 0, none⟩), .pointer (some ⟨B, 0, none⟩)]] H Q = Q (.int .i64 (k : Int)) H := by
  refine pc (by decide) e71 rfl rfl ?_
  rw [b71, c71]
  simp only [n71, r71, SB, Nat.reduceLT, callee, aOp, ne_eq, Nat.reduceEqDiff, aBin, aUn, if_true, if_false, reduceCtorEq, frame0, place, notTuple, Nat.reduceAdd, Nat.reduceLeDiff, resVal, dite_true, dite_false, Int.reduceEq, Int.reduceLT, Int.reduceLE]
  refine Ret_rounds (fun j => Ts.length - j) (fun j fr G => j ≤ k ∧ fr 0 = .slice p Ts.length cap ∧ fr 1 = .func (.func 72) #[] #[.pointer (some ⟨A, 0, none⟩), .pointer (some ⟨B, 0, none⟩)] ∧ fr 7 = .int .i64 (Ts.length : Int) ∧ fr 8 = .int .i64 (j : Int) ∧ Ext H G) 0 ⟨Nat.zero_le _, (by simp only [FB, Nat.reduceEqDiff]), (by simp only [FB, Nat.reduceEqDiff]), (by simp only [FB, Nat.reduceEqDiff]), by rfl, Ext.refl.app⟩ ?_
  intro j fr G ⟨hj, f0, f1, f7, f8, hE⟩ hN
  rw [Ret_code l71_1.eq_1]
  refine Ret_pad ?_
  have hlt : j < Ts.length := by omega
  have hld := fun X => ((hE.sl hs).app X).loadCells encT_len hlt
  have hidx := fun c (kk : IntKind) (H1 : Heap) => (hE.sl hs).idx (c := c) (k := kk) (H1 := H1) hlt
  have hw1 : IntKind.i64.wrap ((j : Int) + 1) = ((j + 1 : Nat) : Int) := wrap_nat (by omega)
  have hat := fun X (mp : Bool) (lim : Nat) (Q : Value → Heap → Prop) => at_ok (mp := mp) (lim := lim) (Q := Q) (H := G ++ X) (T := gt Ts j) hi (hTs _ (gt_mem hlt)) ((hE.app).cells hA) ((hE.app).cells hB)
  by_cases he : j = k
  · subst he
    rw [decide_eq_true hkt] at hat
    simp only [n71, r71, f0, f1, f7, f8, hlt, hld, hidx, hw1, hat, SB, Nat.reduceLT, callee, aOp, ne_eq, Nat.reduceEqDiff, aBin, aUn, if_true, if_false, reduceCtorEq, frame0, place, notTuple, Nat.reduceAdd, Nat.reduceLeDiff, resVal, dite_true, dite_false, Int.reduceEq, Int.reduceLT, Int.reduceLE]
  · rw [decide_eq_false (p := (gt Ts j).getD i (-1) = t) (hno j (by omega))] at hat
    simp only [n71, r71, f0, f1, f7, f8, hlt, hld, hidx, hw1, hat, SB, Nat.reduceLT, callee, aOp, ne_eq, Nat.reduceEqDiff, aBin, aUn, if_true, if_false, reduceCtorEq, frame0, place, notTuple, Nat.reduceAdd, Nat.reduceLeDiff, resVal, dite_true, dite_false, Int.reduceEq, Int.reduceLT, Int.reduceLE]
    exact hN (j + 1) _ _ ⟨by omega, (by simp only [f0, FB, Nat.reduceEqDiff]), (by simp only [f1, FB, Nat.reduceEqDiff]), (by simp only [f7, FB, Nat.reduceEqDiff]), (by simp only [FB, Nat.reduceEqDiff]), hE.app⟩ (by omega)
theorem values_rule [OB] {lim Y Bx c : Nat} {p : Option Addr} {o : Bool} {L : List Leg} {H : Heap} {Q : Value → Heap → Prop} (I : Nat → Heap → Prop) (hnL : L.length < 2 ^ 62)
    (hI : ∀ i H H', I i H → Chg [] H H' → I i H')
    (hsl : ∀ i H, I i H → Sl H encL 8 p L ∧ hget H Bx = .cells o [.slice p L.length c] ∧ lim ≤ H.length)
    (hround : ∀ i H, i < L.length → I i H → CallY E false lim Y [.agg (encL (gt L i)).toArray] H fun v H' => v = .bool true ∧ I (i + 1) H')
    (h0 : I 0 H) (hQ : ∀ H', I L.length H' → Q (.tuple #[]) H') :
    CallR E false lim 107 [.func (.yield Y) #[] #[], .pointer (some ⟨Bx, 0, none⟩)] H Q := by
  refine runs' (by decide) e107 rfl ?_
  rw [b107, c107]
  have hBX := fun X => (Ext.refl.app (X := X)).cells (hsl _ _ h0).2.1
  simp only [n107, r107, hBX, SB, Nat.reduceLT, callee, aOp, ne_eq, Nat.reduceEqDiff, aBin, aUn, if_true, if_false, reduceCtorEq, frame0, place, notTuple, Nat.reduceAdd, Nat.reduceLeDiff, resVal, dite_true, dite_false, Int.reduceEq, Int.reduceLT, Int.reduceLE]
  refine Ret_rounds (fun i => L.length - i) (fun i fr G => i ≤ L.length ∧ fr 0 = .func (.yield Y) #[] #[] ∧ fr 5 = .slice p L.length c ∧ fr 6 = .int .i64 (L.length : Int) ∧ fr 7 = .int .i64 (i : Int) ∧ I i G) 0 ⟨Nat.zero_le _, (by simp only [FB, Nat.reduceEqDiff]), (by simp only [FB, Nat.reduceEqDiff]), (by simp only [FB, Nat.reduceEqDiff]), by rfl, hI _ _ _ h0 (Chg.refl.app)⟩ ?_
  intro i fr G ⟨hi, f0, f5, f6, f7, hIG⟩ hN
  rw [Ret_code l107_1.eq_1]
  refine Ret_pad ?_
  obtain ⟨hs, hB, hlG⟩ := hsl _ _ hIG
  by_cases hlt : i < L.length
  case neg =>
    obtain rfl : i = L.length := by omega
    simp only [n107, r107, f0, f5, f6, f7, hlt, SB, Nat.reduceLT, callee, aOp, ne_eq, Nat.reduceEqDiff, aBin, aUn, if_true, if_false, reduceCtorEq, frame0, place, notTuple, Nat.reduceAdd, Nat.reduceLeDiff, resVal, dite_true, dite_false, Int.reduceEq, Int.reduceLT, Int.reduceLE]
    exact hQ _ (hI _ _ _ hIG (Chg.refl.app))
  have hld := fun X => (hs.app X).loadCells encL_len hlt
  have hidx := fun c (kk : IntKind) (H1 : Heap) => hs.idx (c := c) (k := kk) (H1 := H1) hlt
  have hw1 : IntKind.i64.wrap ((i : Int) + 1) = ((i + 1 : Nat) : Int) := wrap_nat (by omega)
  simp only [n107, r107, f0, f5, f6, f7, hlt, hld, hidx, encL_len, encL_0, encL_1, encL_2, encL_3, encL_4, encL_5, encL_6, encL_7, take_all, hlG, setAll_full, SB, Nat.reduceLT, callee, aOp, ne_eq, Nat.reduceEqDiff, aBin, aUn, if_true, if_false, reduceCtorEq, frame0, place, notTuple, Nat.reduceAdd, Nat.reduceLeDiff, resVal, dite_true, dite_false, Int.reduceEq, Int.reduceLT, Int.reduceLE]
  refine (hround i _ hlt (hI _ _ _ hIG (Chg.refl.app))).mono fun v H' hv => ?_
  obtain ⟨rfl, hI'⟩ := hv
  refine Ret_pad ?_
  simp only [n107, r107, f0, f5, f6, f7, hw1, SB, Nat.reduceLT, callee, aOp, ne_eq, Nat.reduceEqDiff, aBin, aUn, if_true, if_false, reduceCtorEq, frame0, place, notTuple, Nat.reduceAdd, Nat.reduceLeDiff, resVal, dite_true, dite_false, Int.reduceEq, Int.reduceLT, Int.reduceLE]
  exact hN (i + 1) _ _ ⟨by omega, (by simp only [f0, FB, Nat.reduceEqDiff]), (by simp only [f5, FB, Nat.reduceEqDiff]), (by simp only [f6, FB, Nat.reduceEqDiff]), (by simp only [FB, Nat.reduceEqDiff]), hI _ _ _ hI' (Chg.refl.app)⟩ (by omega)
theorem append_key [OB] {lim Bx c : Nat} {p : Option Addr} {o : Bool} {L : List Leg} {H : Heap} {Z : Value → Heap → Prop} {fr0 : Nat → Value} {K' : List AItem} (hB : hget H Bx = .cells o [.slice p L.length c]) (hs : Sl H encL 8 p L) (hn : L.length < 2 ^ 30) (hlim : lim ≤ H.length)
    (f2 : fr0 2 = .pointer (some ⟨H.length, 0, none⟩))
    (hQ : ∀ H' q cap, Chg [] H H' → Own (H.length + 3) H' encL 8 q cap L → hget H' H.length = .cells false [.slice q L.length cap] → hget H' (H.length + 1) = .dfr → H.length + 3 ≤ H'.length → Ret E a121 lim (K' ++ [.mark (H.length + 1)]) fr0 (H' ++ []) Z) :
    CallR E false lim 107 [.func (.yield (H.length + 2)) #[] #[], .pointer (some ⟨Bx, 0, none⟩)] (H ++ [.cells false [.slice none 0 0], .dfr, .loop ⟨0, none, fr0, 13, [7], ga121_1, gb121_1⟩]) fun _ H2 =>
      endK (hget H2 (H.length + 1 + 1)) fun x => Ret E a121 lim (pendI x ++ (K' ++ [.mark (H.length + 1)])) fr0 (H2.set (H.length + 1 + 1) .dead) Z := by
  refine values_rule (c := c) (p := p) (o := o) (L := L) (fun i G => ∃ q cap, hget G H.length = .cells false [.slice q i cap] ∧ Own (H.length + 3) G encL 8 q cap (L.take i) ∧ hget G (H.length + 1) = .dfr ∧ hget G (H.length + 2) = .loop ⟨0, none, fr0, 13, [7], ga121_1, gb121_1⟩ ∧ Chg [] H G ∧ H.length + 3 ≤ G.length ∧ i ≤ L.length) (by omega) ?_ ?_ ?_ ?_ ?_
  · rintro i G G' ⟨q, cap, h1, h2, h3, h4, h5, h6, h7⟩ hC
    have := hC.len
    exact ⟨q, cap, hC.cells h1 (by simp), h2.chg hC (by simp), hC.get h3 (by omega) (by simp), hC.get h4 (by omega) (by simp), h5.trans hC, by omega, h7⟩
  · rintro i G ⟨q, cap, h1, h2, h3, h4, h5, h6, h7⟩
    exact ⟨h5.ext.sl hs, h5.cells hB (by simp), by omega⟩
  · rintro i G hlt ⟨q, cap, h2, hO, hd, hy, hC, hl, _⟩
    rw [CallY_run (x := ⟨0, none, fr0, 13, [7], ga121_1, gb121_1⟩) hy (by omega) rfl (by rfl), setParams_one]
    rw [Ret_code ga121_1.eq_1]
    refine Ret_pad ?_
    obtain ⟨G1, e1, h1, m1⟩ := mut_set (G := G) (R := H.length + 2) (by omega) (.loop ⟨1, none, fr0, 13, [7], ga121_1, gb121_1⟩)
    have gY := fun X => (Ext.refl.app (X := X)).get' hy (by omega)
    have hlG : lim ≤ G.length := by omega
    simp only [f2, encL_len, encL_0, encL_1, encL_2, encL_3, encL_4, encL_5, encL_6, encL_7, take_all, setAll_full, hlG, gY, e1, show lim ≤ H.length + 2 by omega, SB, Nat.reduceLT, callee, aOp, ne_eq, Nat.reduceEqDiff, aBin, aUn, if_true, if_false, reduceCtorEq, frame0, place, notTuple, Nat.reduceAdd, Nat.reduceLeDiff, resVal, dite_true, dite_false, Int.reduceEq, Int.reduceLT, Int.reduceLE]
    rw [Ret_code gb121_1.eq_1]
    have hO1 : Own (H.length + 3) G1 encL 8 q cap (L.take i) := hO.mut m1 fun a e => by have := (hO.block e).1; omega
    have hlen : (L.take i).length = i := by rw [List.length_take]; omega
    obtain ⟨G3, e3, O3, C3, hold3, l3, hn3⟩ := hO1.step (lim' := lim) (bytes := 64) (by omega) encL_len (by decide) (gt L i) (by rw [hlen]; unfold maxBytes; omega) (by rw [hlen]; omega) (by rw [m1.len]; omega) [.cells false (encL (gt L i)), .cells false (encL (gt L i))] (G1.length + 1) 1 hget_new
    rw [hlen] at e3
    rw [m1.len] at e3 O3 l3
    simp only [List.length_cons, List.length_nil] at e3 l3
    have b2 := fun X => (Ext.refl.app (X := X)).cells (m1.cells h2 (by omega))
    have c5 : ∀ X : Heap, hget (G1 ++ X) G.length = X.getD 0 .dead := (len_rules m1.len).2.2.1
    have c6 : ∀ (X : Heap) (j : Nat), hget (G1 ++ X) (G.length + j) = X.getD j .dead := (len_rules m1.len).2.1
    have nb : ∀ j, j < H.length + 3 → ∀ a, q = some a → j ≠ a.block := fun j hj a e hh => by have := (hO.block e).1; omega
    have t3 : hget (G3 ++ []) H.length = .cells false [.slice q i cap] := (hold3 _ (by rw [m1.len]; omega) (nb _ (by omega))).trans (m1.cells h2 (by omega))
    have y3 : hget (G3 ++ []) (H.length + 2) = _ := (hold3 _ (by rw [m1.len]; omega) (nb _ (by omega))).trans h1
    have d3 : hget (G3 ++ []) (H.length + 1) = _ := (hold3 _ (by rw [m1.len]; omega) (nb _ (by omega))).trans (m1.alive hd (by omega))
    rw [List.append_nil] at t3 y3 d3 O3
    obtain ⟨G4, e4, h4, m4⟩ := mut_set (hget_alive t3) (.cells false [.slice (some ⟨G.length + 2, 0, none⟩) (i + 1) (loose 8)])
    have y4' := m4.alive y3 (by omega)
    have y4 := fun X => (Ext.refl.app (X := X)).get' y4' (by rw [m4.len]; omega)
    obtain ⟨G5, e5, h5, m5⟩ := mut_set (G := G4) (R := H.length + 2) (by rw [m4.len]; omega) (.loop ⟨0, none, fr0, 13, [7], ga121_1, gb121_1⟩)
    have t3X := fun X => (Ext.refl.app (X := X)).cells t3
    simp only [f2, encL_len, encL_0, encL_1, encL_2, encL_3, encL_4, encL_5, encL_6, encL_7, take_all, setAll_full, hlG, b2, c5, c6, m1.len, e3, e4, e5, y4, t3X, show lim ≤ H.length by omega, show lim ≤ H.length + 2 by omega, SB, Nat.reduceLT, callee, aOp, ne_eq, Nat.reduceEqDiff, aBin, aUn, if_true, if_false, reduceCtorEq, frame0, place, notTuple, Nat.reduceAdd, Nat.reduceLeDiff, resVal, dite_true, dite_false, Int.reduceEq, Int.reduceLT, Int.reduceLE]
    have cH := C3 [] H (by omega) (hC.mut m1 (.inr (by omega)))
    rw [List.append_nil] at cH
    have l5 : G5.length = G3.length := by rw [m5.len, m4.len]
    refine ⟨_, _, (Ext.refl.app).cells (m5.cells h4 (by omega)), ?_, (Ext.refl.app).get' (m5.alive (m4.alive d3 (by omega)) (by omega)) (by omega), (Ext.refl.app).get' h5 (by omega), ((cH.mut m4 (.inr (by omega))).mut m5 (.inr (by omega))).app, by omega, by omega⟩
    rw [take_snoc hlt]
    exact ((O3.mut m4 fun a e => by cases e; show G.length + 2 ≠ _; omega).mut m5 fun a e => by cases e; show G.length + 2 ≠ _; omega).app _
  · exact ⟨none, 0, hget_new0, .nil, by rw [hget_new]; rfl, by rw [hget_new]; rfl, Chg.refl.app, by simp, Nat.zero_le _⟩
  · rintro H' ⟨q, cap, h1, h2, h3, h4, h5, h6, _⟩
    rw [List.take_length] at h2
    rw [endK_congr (show hget H' (H.length + 1 + 1) = _ from h4), endK_0]
    show Ret E a121 lim (K' ++ [.mark (H.length + 1)]) fr0 _ _
    have hC : Mut H' (H'.set (H.length + 1 + 1) .dead) (H.length + 1 + 1) := ⟨by simp, fun j hj => hget_set_ne hj⟩
    refine Ret_pad ?_
    exact hQ _ q cap (h5.mut hC (.inr (by omega))) (h2.mut hC fun a e => by have := (h2.block e).1; omega) (hC.cells h1 (by omega)) (hC.alive h3 (by omega)) (by rw [hC.len]; omega)
theorem append_seq [OB] {lim Bx c : Nat} {p : Option Addr} {o : Bool} {L : List Leg} {H : Heap} {Q : Value → Heap → Prop} (hB : hget H Bx = .cells o [.slice p L.length c]) (hs : Sl H encL 8 p L) (hn : L.length < 2 ^ 30) (hlim : lim ≤ H.length)
    (hQ : ∀ H' q cap, Chg [] H H' → Own (H.length + 3) H' encL 8 q cap L → Q (.slice q L.length cap) H') :
    CallR E false lim 121 [.slice none 0 0, .func (.func 107) #[] #[.pointer (some ⟨Bx, 0, none⟩)]] H Q := by
  refine runs' (by decide) e121 rfl ?_
  rw [b121, c121]
  have hlen : (H ++ [Blk.cells false [Value.slice none 0 0]]).length = H.length + 1 := by simp
  simp only [n121, r121, SB, Nat.reduceLT, callee, aOp, ne_eq, Nat.reduceEqDiff, aBin, aUn, if_true, if_false, reduceCtorEq, frame0, place, notTuple, Nat.reduceAdd, Nat.reduceLeDiff, resVal, dite_true, dite_false, Int.reduceEq, Int.reduceLT, Int.reduceLE]
  rw [hlen]
  refine append_key hB hs hn hlim (by simp only [FB, Nat.reduceEqDiff]) fun H' q cap hC hO h2 hd hl => ?_
  have h2X := fun X => (Ext.refl.app (X := X)).cells h2
  have hdX := fun X => (Ext.refl.app (X := X)).get' hd (by omega)
  show Ret E a121 lim (.inBlock 0 :: .code _ :: .code .retM :: .mark (H.length + 1) :: []) _ _ _
  simp only [n121, r121, h2X, hdX, show lim ≤ H.length + 1 by omega, SB, Nat.reduceLT, callee, aOp, ne_eq, Nat.reduceEqDiff, aBin, aUn, if_true, if_false, reduceCtorEq, frame0, place, notTuple, Nat.reduceAdd, Nat.reduceLeDiff, resVal, dite_true, dite_false, Int.reduceEq, Int.reduceLT, Int.reduceLE]
  have hm : Mut (H' ++ []) ((H' ++ []).set (H.length + 1) .dead) (H.length + 1) := ⟨by simp, fun j hj => hget_set_ne hj⟩
  exact hQ _ _ _ (hC.app.mut hm (.inr (by omega))) ((hO.app []).mut hm fun a e => by have := (hO.block e).1; omega)
theorem collect_ok [OB] {lim Bx c : Nat} {p : Option Addr} {o : Bool} {L : List Leg} {H : Heap} {Q : Value → Heap → Prop} (hB : hget H Bx = .cells o [.slice p L.length c]) (hs : Sl H encL 8 p L) (hn : L.length < 2 ^ 30) (hlim : lim ≤ H.length)
    (hQ : ∀ H' q cap, Chg [] H H' → Own (H.length + 3) H' encL 8 q cap L → Q (.slice q L.length cap) H') :
    CallR E false lim 105 [.func (.func 107) #[] #[.pointer (some ⟨Bx, 0, none⟩)]] H Q := by
  refine runs' (by decide) e105 rfl ?_
  rw [b105, c105]
  simp only [n105, r105, SB, Nat.reduceLT, callee, aOp, ne_eq, Nat.reduceEqDiff, aBin, aUn, if_true, if_false, reduceCtorEq, frame0, place, notTuple, Nat.reduceAdd, Nat.reduceLeDiff, resVal, dite_true, dite_false, Int.reduceEq, Int.reduceLT, Int.reduceLE]
  rw [List.append_nil]
  refine append_seq hB hs hn hlim fun H' q cap hC hO => ?_
  refine Ret_pad ?_
  simp only [n105, r105, SB, Nat.reduceLT, callee, aOp, ne_eq, Nat.reduceEqDiff, aBin, aUn, if_true, if_false, reduceCtorEq, frame0, place, notTuple, Nat.reduceAdd, Nat.reduceLeDiff, resVal, dite_true, dite_false, Int.reduceEq, Int.reduceLT, Int.reduceLE]
  exact hQ _ _ _ hC.app (hO.app _)
theorem same_step {α : Type} [Inhabited α] {a b : List α} {i : Nat} (hl : a.length = b.length) (hi : i < a.length) (hall : ∀ j, j < i → gt a j = gt b j) (he : gt a i = gt b i) : ∀ j, j < i + 1 → gt a j = gt b j := fun j hj => by
  rcases Nat.lt_or_ge j i with h | h
  · exact hall j h
  · obtain rfl : j = i := by omega
    exact he
theorem same_all {α : Type} [Inhabited α] {a b : List α} (hl : a.length = b.length) (hall : ∀ j, j < a.length → gt a j = gt b j) : a = b := by
  apply List.ext_getElem hl
  intro i h1 h2
  have := hall i h1
  rwa [gt_lt h1, gt_lt h2] at this
theorem sameints_ok [OB] {mp : Bool} {lim ca cb : Nat} {p q : Option Addr} {a b : List Int} {H : Heap} {Q : Value → Heap → Prop} (ha : Sl H encI 1 p a) (hb : Sl H encI 1 q b) (hn : a.length < 2 ^ 62) :
    CallR E mp lim 28 [.slice p a.length ca, .slice q b.length cb] H Q = Q (.bool (decide (a = b))) H := by
  refine pc (by decide) e28 rfl rfl ?_
  rw [b28, c28]
  by_cases hl : a.length = b.length
  case neg =>
    have h1 : ¬ (a.length : Int) = (b.length : Int) := by omega
    simp only [n28, r28, eq_false h1, SB, Nat.reduceLT, callee, aOp, ne_eq, Nat.reduceEqDiff, aBin, aUn, if_true, if_false, reduceCtorEq, frame0, place, notTuple, Nat.reduceAdd, Nat.reduceLeDiff, resVal, dite_true, dite_false, Int.reduceEq, Int.reduceLT, Int.reduceLE]
    congr 1
    rw [eq_comm, decide_eq_false_iff_not]
    rintro rfl
    exact hl rfl
  have h1 : (a.length : Int) = (b.length : Int) := by omega
  simp only [n28, r28, eq_true h1, SB, Nat.reduceLT, callee, aOp, ne_eq, Nat.reduceEqDiff, aBin, aUn, if_true, if_false, reduceCtorEq, frame0, place, notTuple, Nat.reduceAdd, Nat.reduceLeDiff, resVal, dite_true, dite_false, Int.reduceEq, Int.reduceLT, Int.reduceLE]
  refine Ret_rounds (fun j => a.length - j) (fun j fr G => j ≤ a.length ∧ fr 0 = .slice p a.length ca ∧ fr 1 = .slice q b.length cb ∧ fr 5 = .int .i64 (j : Int) ∧ Ext H G ∧ ∀ i, i < j → gt a i = gt b i) 0 ⟨Nat.zero_le _, (by simp only [FB, Nat.reduceEqDiff]), (by simp only [FB, Nat.reduceEqDiff]), by rfl, Ext.refl.app, fun i hi => by omega⟩ ?_
  intro j fr G ⟨hj, f0, f1, f5, hE, hall⟩ hN
  rw [Ret_code l28_1.eq_1]
  refine Ret_pad ?_
  by_cases hlt : j < a.length
  case neg =>
    obtain rfl : j = a.length := by omega
    simp only [n28, r28, f0, f1, f5, hlt, SB, Nat.reduceLT, callee, aOp, ne_eq, Nat.reduceEqDiff, aBin, aUn, if_true, if_false, reduceCtorEq, frame0, place, notTuple, Nat.reduceAdd, Nat.reduceLeDiff, resVal, dite_true, dite_false, Int.reduceEq, Int.reduceLT, Int.reduceLE]
    rw [decide_eq_true (same_all hl hall)]
  have l1 := fun X => ((hE.sl ha).app X).loadCell0 encI_len hlt (by decide)
  have l2 := fun X => ((hE.sl hb).app X).loadCell0 encI_len (by omega : j < b.length) (by decide)
  simp only [encI, List.getElem?_cons_zero] at l1 l2
  have x1 := fun c (kk : IntKind) (H1 : Heap) => (hE.sl ha).idx (c := c) (k := kk) (H1 := H1) hlt
  have x2 := fun c (kk : IntKind) (H1 : Heap) => (hE.sl hb).idx (c := c) (k := kk) (H1 := H1) (by omega : j < b.length)
  have hw1 : IntKind.i64.wrap ((j : Int) + 1) = ((j + 1 : Nat) : Int) := wrap_nat (by omega)
  by_cases he : gt a j = gt b j
  · simp only [n28, r28, f0, f1, f5, hlt, l1, l2, x1, x2, hw1, eq_true he, SB, Nat.reduceLT, callee, aOp, ne_eq, Nat.reduceEqDiff, aBin, aUn, if_true, if_false, reduceCtorEq, frame0, place, notTuple, Nat.reduceAdd, Nat.reduceLeDiff, resVal, dite_true, dite_false, Int.reduceEq, Int.reduceLT, Int.reduceLE]
    exact hN (j + 1) _ _ ⟨by omega, (by simp only [f0, FB, Nat.reduceEqDiff]), (by simp only [f1, FB, Nat.reduceEqDiff]), (by simp only [FB, Nat.reduceEqDiff]), hE.app, same_step hl hlt hall he⟩ (by omega)
  · simp only [n28, r28, f0, f1, f5, hlt, l1, l2, x1, x2, hw1, eq_false he, SB, Nat.reduceLT, callee, aOp, ne_eq, Nat.reduceEqDiff, aBin, aUn, if_true, if_false, reduceCtorEq, frame0, place, notTuple, Nat.reduceAdd, Nat.reduceLeDiff, resVal, dite_true, dite_false, Int.reduceEq, Int.reduceLT, Int.reduceLE]
    rw [decide_eq_false]
    rintro rfl
    exact he rfl
theorem seen_ok [OB] {mp : Bool} {lim : Nat} {p t : Int} {H : Heap} {Q : Value → Heap → Prop} : CallR E mp lim 56 [.int .i64 p, .int .i64 t] H Q = Q (.agg #[.int .i64 7, .int .i64 p, .int .i64 1, .int .u8 2, .int .i64 t, .int .i64 t, .int .i64 t]) H := by
  refine pc (by decide) e56 rfl rfl ?_
  rw [b56, c56]
  simp only [n56, r56, setAll, fillV, SB, Nat.reduceLT, callee, aOp, ne_eq, Nat.reduceEqDiff, aBin, aUn, if_true, if_false, reduceCtorEq, frame0, place, notTuple, Nat.reduceAdd, Nat.reduceLeDiff, resVal, dite_true, dite_false, Int.reduceEq, Int.reduceLT, Int.reduceLE]
theorem two_ok [OB] {lim : Nat} {H : Heap} {Q : Value → Heap → Prop} (hlim : lim ≤ H.length) (hQ : ∀ H' a b, Ext H H' → NetIn H' a b P2 L2 → Q (.agg (netV a 2 2 b 1 1).toArray) H') : CallR E false lim 83 [] H Q := by
  refine runs' (by decide) e83 rfl ?_
  rw [b83, c83]
  simp only [n83, r83, setAll_full, hlim, SB, Nat.reduceLT, callee, aOp, ne_eq, Nat.reduceEqDiff, aBin, aUn, if_true, if_false, reduceCtorEq, frame0, place, notTuple, Nat.reduceAdd, Nat.reduceLeDiff, resVal, dite_true, dite_false, Int.reduceEq, Int.reduceLT, Int.reduceLE]
  refine hQ _ (some ⟨H.length + 1, 0, none⟩) (some ⟨H.length + 2, 0, none⟩) Ext.refl.app ⟨Sl.row (ro := false) encI_len (by rw [hget_new]; rfl), Sl.row (ro := false) encL_len (by rw [hget_new]; rfl), by decide, by decide, ?_⟩
  intro l hl
  simp only [L2, List.mem_cons, List.not_mem_nil, or_false] at hl
  rcases hl with rfl <;> (unfold By; decide)
theorem awake38_go [OB] {mp : Bool} {lim : Nat} {H : Heap} {Q : Value → Heap → Prop} (hoff : OB.on 38 = false) : CallR E mp lim 38 [] H Q = Q (.bool true) H := by
  refine CallR_pure (E := E) (by simp [E, orc, hoff]) (show E.tr 38 = some a38 from e38) rfl rfl (Ret_pad ?_)
  rw [b38, c38]
  simp only [n38, r38, SB, Nat.reduceLT, callee, aOp, ne_eq, Nat.reduceEqDiff, aBin, aUn, if_true, if_false, reduceCtorEq, frame0, place, notTuple, Nat.reduceAdd, Nat.reduceLeDiff, resVal, dite_true, dite_false, Int.reduceEq, Int.reduceLT, Int.reduceLE]
  rw [List.append_nil]
  refine two_ok (Nat.le_refl _) fun H0 pa pb hE0 hn0 => ?_
  refine Ret_pad ?_
  have hl0 := hE0.len
  have pr : ∀ (p t q s v : Int), errI P2 L2 [seenE p t, seenE q s] = 0 → priceN P2 L2 (seenE p t) (seenE q s) = v → ∀ (X : Heap) (mp : Bool) (lim : Nat) (Q : Value → Heap → Prop), CallR E mp lim 45 [.agg (netV pa 2 2 pb 1 1).toArray, .agg #[.int .i64 7, .int .i64 p, .int .i64 1, .int .u8 2, .int .i64 t, .int .i64 t, .int .i64 t], .agg #[.int .i64 7, .int .i64 q, .int .i64 1, .int .u8 2, .int .i64 s, .int .i64 s, .int .i64 s]] (H0 ++ X) Q = Q (.tuple #[.int .i64 v, .int .i64 0]) (H0 ++ X) := fun p t q s v h1 h2 X mp lim Q => by
    have := Price_ok (mp := mp) (lim := lim) (cp := 2) (cl := 1) (a := seenE p t) (b := seenE q s) (Q := Q) (hn0.app X)
    rw [h1, if_pos rfl, h2] at this
    exact this
  have pr1 := pr _ _ _ _ _ i_a x_a
  have pr2 := pr _ _ _ _ _ i_b x_b
  have pr3 := pr _ _ _ _ _ i_c x_c
  have pr4 := pr _ _ _ _ _ i_d x_d
  simp only [n38, r38, netV_len, netV_0, netV_1, take_all, setAll_full, hl0, seen_ok, pr1, pr2, pr3, pr4, setAll, fillV, SB, Nat.reduceLT, callee, aOp, ne_eq, Nat.reduceEqDiff, aBin, aUn, if_true, if_false, reduceCtorEq, frame0, place, notTuple, Nat.reduceAdd, Nat.reduceLeDiff, resVal, dite_true, dite_false, Int.reduceEq, Int.reduceLT, Int.reduceLE]
  generalize hG : H0 ++ [Blk.cells false (netV pa 2 2 pb 1 1), _] = G
  have hEG : Ext H0 G := ⟨_, hG.symm⟩
  have n0 : hget G H0.length = .cells false (netV pa 2 2 pb 1 1) := by rw [← hG, hget_new0]; rfl
  have s0 : Sl G encE 7 (some ⟨H0.length + 1, 0, none⟩) E3 := Sl.row (ro := false) encE_len (by rw [← hG, hget_new]; rfl)
  have hlG := hEG.len
  clear hG
  refine Best_ok (P := P2) (L := L2) (cp := 2) (cl := 1) (es := E3) (ce := 3) (hn0.ext hEG) (by omega) s0 (by decide) (fun _ h => absurd i_e h) fun G1 q cq r cr _ hC1 hq hr => ?_
  rw [best3] at hq hr ⊢
  rw [steps3] at hr ⊢
  rw [cost3]
  have n1 := hC1.cells n0 (by simp)
  have s1 := hC1.ext.sl s0
  have hE1 : Ext H0 G1 := hEG.trans hC1.ext
  have hlG1 := hC1.len
  have n1X := fun X => (Ext.refl.app (X := X)).cells n1
  refine Ret_pad ?_
  simp only [n38, r38, n1X, netV_len, netV_0, netV_1, take_all, setAll_full, setAll, fillV, show H.length ≤ G1.length by omega, SB, Nat.reduceLT, callee, aOp, ne_eq, Nat.reduceEqDiff, aBin, aUn, if_true, if_false, reduceCtorEq, frame0, place, notTuple, Nat.reduceAdd, Nat.reduceLeDiff, resVal, dite_true, dite_false, Int.reduceEq, Int.reduceLT, Int.reduceLE]
  refine Cost_ok (P := P2) (L := L2) (cp := 2) (cl := 1) (es := E3) (ce := 3) (ks := [0, 1, 2]) (ck := 3) ((hn0.ext hE1).app _) (by simp; omega) (s1.app _) (by decide) (Sl.row (ro := false) encI_len (by rw [hget_new]; rfl)) (by decide) (fun h => by cases h) (fun _ h => absurd i_f h) fun G2 q' cq' r' cr' _ hC2 hq' hr' => ?_
  rw [steps4, cost4]
  have hC2' := hC2.pre
  have o1 := hC2.cells hget_new0 (by simp)
  have q2 := hC2'.ext.sl hq.1
  have r2 := hC2'.ext.sl hr.1
  have hlG2 := hC2'.len
  have o1X := fun X => (Ext.refl.app (X := X)).cells o1
  have ld : ∀ X, AM.loadCells (G2 ++ X) (elt r 3 0) 3 = some [.int .i64 0, .int .i64 2, .int .i64 0] := fun X => (r2.app X).loadCells enc3_len (i := 0) (by decide)
  have ix : ∀ c (kk : IntKind) (H1 : Heap), idxK 3 (.slice r 1 c) (.int kk 0) H1 = some (.pointer (some (elt r 3 0)), H1) := fun c kk H1 => r2.idx (c := c) (k := kk) (H1 := H1) (i := 0) (by decide)
  have eq3 : aEq (.agg [.int .i64, .int .i64, .int .i64]) (.agg #[.int .i64 0, .int .i64 2, .int .i64 0]) (.agg #[.int .i64 0, .int .i64 2, .int .i64 0]) = some true := rfl
  have f1 : ∀ (a : Blk) (X : Heap) (mp : Bool) (lim : Nat) (Q : Value → Heap → Prop), CallR E mp lim 28 [.slice q 2 cq, .slice (some ⟨G2.length + 1, 0, none⟩) 2 2] (G2 ++ a :: .cells false [.int .i64 0, .int .i64 2] :: X) Q = Q (.bool true) (G2 ++ a :: .cells false [.int .i64 0, .int .i64 2] :: X) := fun a X mp lim Q =>
    sameints_ok (a := [0, 2]) (b := [0, 2]) (q2.app _) (Sl.row (ro := false) encI_len (by rw [hget_new]; rfl)) (by decide)
  refine Ret_pad ?_
  have w0 : IntKind.i64.wrap (0 + 0) = 0 := by decide
  simp only [n38, r38, o1X, ld, ix, f1, take_all, setAll_full, setAll, fillV, show H.length ≤ G2.length by omega, w0, eq_self, decide_true, eq3, SB, Nat.reduceLT, callee, aOp, ne_eq, Nat.reduceEqDiff, aBin, aUn, if_true, if_false, reduceCtorEq, frame0, place, notTuple, Nat.reduceAdd, Nat.reduceLeDiff, resVal, dite_true, dite_false, Int.reduceEq, Int.reduceLT, Int.reduceLE]
structure RL where
  (a b c d e f : Int)
  deriving DecidableEq, Inhabited
def encR (x : RL) : List Value := [.int .u8 x.a, .int .u8 x.b, .int .u8 x.c, .int .u8 x.d, .int .u8 x.e, .int .u8 x.f]
theorem encR_len (x : RL) : (encR x).length = 6 := id rfl
def ByR (x : RL) : Prop := (0 ≤ x.a ∧ x.a ≤ 255) ∧ (0 ≤ x.b ∧ x.b ≤ 255) ∧ (0 ≤ x.c ∧ x.c ≤ 255) ∧ (0 ≤ x.d ∧ x.d ≤ 255) ∧ (0 ≤ x.e ∧ x.e ≤ 255) ∧ (0 ≤ x.f ∧ x.f ≤ 255)
def P5 : List Int := [3, 1, 5, 2, 4]
def legR (i : Nat) (x : RL) : Leg := ⟨(i : Int) + 1, 1 + x.a.tmod 5, 1 + x.b.tmod 5, x.c * 5, 1 + x.d, x.e.tmod 60, 1000, x.f.tmod 127 + 1⟩
def netL (rs : List RL) : Nat → List Leg
  | 0 => []
  | n + 1 => if (legR n (gt rs n)).frm ≠ (legR n (gt rs n)).dst then netL rs n ++ [legR n (gt rs n)] else netL rs n
theorem netL_len (rs : List RL) : ∀ n, (netL rs n).length ≤ n
  | 0 => Nat.le_refl _
  | n + 1 => by
    have := netL_len rs n
    rw [netL]
    split
    · simp; omega
    · omega
theorem netL_mem {rs : List RL} {l : Leg} : ∀ {n}, l ∈ netL rs n → ∃ i, i < n ∧ l = legR i (gt rs i) ∧ l.frm ≠ l.dst
  | 0, h => by cases h
  | n + 1, h => by
    rw [netL] at h
    split at h
    · rename_i hne
      rcases List.mem_append.1 h with h | h
      · obtain ⟨i, h1, h2⟩ := netL_mem h; exact ⟨i, by omega, h2⟩
      · rw [List.mem_singleton] at h; subst h; exact ⟨n, by omega, rfl, hne⟩
    · obtain ⟨i, h1, h2⟩ := netL_mem h; exact ⟨i, by omega, h2⟩
theorem netL_by {rs : List RL} {n : Nat} (hb : ∀ x ∈ rs, ByR x) (hn : min rs.length 10 = n) : ∀ l ∈ netL rs n, By l := fun l hl => by
  obtain ⟨i, hi, rfl, _⟩ := netL_mem hl
  have h1 := hb _ (gt_mem (l := rs) (i := i) (by omega))
  have h2 := h1.2.2.2.2.2
  unfold By legR
  simp only
  have h3 := Int.tmod_lt_of_pos (gt rs i).f (show (0 : Int) < 127 by decide)
  have h4 := Int.tmod_nonneg (127 : Int) h2.1
  omega
theorem gt_take {α : Type} [Inhabited α] {l : List α} {n i : Nat} (h : i < n) : gt (l.take n) i = gt l i := by
  unfold gt
  rw [List.getD_eq_getElem?_getD, List.getD_eq_getElem?_getD, List.getElem?_take, if_pos h]
theorem Net_ok [OB] {lim c : Nat} {p : Option Addr} {rs : List RL} {H : Heap} {Q : Value → Heap → Prop} (hs : Sl H encR 6 p rs) (hb : ∀ x ∈ rs, ByR x) (hl : rs.length < 2 ^ 63) (hc : CapOk 6 c rs.length) (hlim : lim ≤ H.length)
    (hQ : ∀ G pp pl cl, Chg [] H G → NetIn G pp pl P5 (netL rs (min rs.length 10)) → Q (.agg (netV pp 5 5 pl (netL rs (min rs.length 10)).length cl).toArray) G) :
    CallR E false lim 53 [.slice p rs.length c] H Q := by
  refine runs' (by decide) e53 rfl ?_
  rw [b53, c53]
  obtain ⟨n, hn⟩ : ∃ n, min rs.length 10 = n := ⟨_, rfl⟩
  rw [hn] at hQ
  have emin : min (rs.length : Int) 10 = (n : Int) := by omega
  obtain ⟨q1, k1, x1, s1, _, _, _⟩ := slice_cut (vlo := none) (vhi := some (.int .i64 (n : Int))) (lo := 0) (hi := n) hs hc encR_len (fun cap hcap => by rw [bv_010 (by omega) (by omega), Int.toNat_natCast]) (Nat.zero_le _) (by omega) (by omega)
  rw [List.drop_zero] at s1
  simp only [Nat.sub_zero] at x1
  have hsl : (rs.take n).length = n := by rw [List.length_take]; omega
  simp only [n53, r53, setAll_full, hlim, min_v, emin, x1, SB, Nat.reduceLT, callee, aOp, ne_eq, Nat.reduceEqDiff, aBin, aUn, if_true, if_false, reduceCtorEq, frame0, place, notTuple, Nat.reduceAdd, Nat.reduceLeDiff, resVal, dite_true, dite_false, Int.reduceEq, Int.reduceLT, Int.reduceLE]
  refine Ret_rounds (fun s : Nat × Option Addr × Nat => n - s.1) (fun s fr G => s.1 ≤ n ∧ fr 2 = .pointer (some ⟨H.length, 0, none⟩) ∧ fr 3 = .pointer (some ⟨H.length + 2, 0, none⟩) ∧ fr 13 = .slice q1 n k1 ∧ fr 14 = .int .i64 (n : Int) ∧ fr 15 = .int .i64 (s.1 : Int) ∧ Chg [] H G ∧ hget G H.length = .cells false [.slice none 0 0, .slice none 0 0] ∧ hget G (H.length + 1) = .cells false (P5.flatMap encI) ∧ hget G (H.length + 2) = .cells false [.slice (some ⟨H.length + 1, 0, none⟩) 5 5, .slice s.2.1 (netL rs s.1).length s.2.2] ∧ Own (H.length + 3) G encL 8 s.2.1 s.2.2 (netL rs s.1)) (0, none, 0)
    ⟨Nat.zero_le _, (by simp only [FB, Nat.reduceEqDiff]), (by simp only [FB, Nat.reduceEqDiff]), (by simp only [FB, Nat.reduceEqDiff]), (by simp only [FB, Nat.reduceEqDiff]), by rfl, Chg.refl.app, by rw [hget_new0]; rfl, by rw [hget_new]; rfl, by rw [hget_new]; rfl, .nil⟩ ?_
  rintro ⟨i, pw, cw⟩ fr G ⟨hi, g2, g3, g13, g14, g15, hC, hA, hP, hB, hO⟩ hN
  simp only at hi g15 hB hO
  rw [Ret_code l53_1.eq_1]
  refine Ret_pad ?_
  have hl := hC.len
  have hBl := hget_alive hB
  have hXB := fun X => (Ext.refl.app (X := X)).cells hB
  by_cases hlt : i < n
  case neg =>
    obtain rfl : i = n := by omega
    obtain ⟨G2, e2, h2, m2⟩ := mut_set (hget_alive hA) (.cells false [.slice (some ⟨H.length + 1, 0, none⟩) 5 5, .slice pw (netL rs i).length cw])
    have XA := fun X => (Ext.refl.app (X := X)).cells hA
    have X2 := fun X => (Ext.refl.app (X := X)).cells h2
    simp only [n53, r53, g2, g3, g13, g14, g15, hlt, hXB, XA, e2, X2, hlim, SB, Nat.reduceLT, callee, aOp, ne_eq, Nat.reduceEqDiff, aBin, aUn, if_true, if_false, reduceCtorEq, frame0, place, notTuple, Nat.reduceAdd, Nat.reduceLeDiff, resVal, dite_true, dite_false, Int.reduceEq, Int.reduceLT, Int.reduceLE]
    have S1 : Sl G2 encI 1 (some ⟨H.length + 1, 0, none⟩) P5 := Sl.row (ro := false) encI_len (m2.cells hP (by omega))
    have S2 := (hO.mut m2 fun a ha e => by have := (hO.block ha).1; omega).sl encL_len
    exact hQ _ (some ⟨H.length + 1, 0, none⟩) pw cw (hC.mut m2 (.inr (Nat.le_refl _))).app ⟨S1.app _, S2.app _, by decide, by have := netL_len rs i; omega, netL_by hb hn⟩
  have hss := (hC.sl s1 (by simp))
  have ld := fun X => (hss.app X).loadCells encR_len (i := i) (by omega)
  have ix := fun c (k : IntKind) (H1 : Heap) => hss.idx (c := c) (k := k) (H1 := H1) (i := i) (by omega)
  have eg : gt (rs.take n) i = gt rs i := gt_take hlt
  rw [eg] at ld
  rw [hsl] at ix
  simp only [encR] at ld
  have hlimG : lim ≤ G.length := by omega
  have hby := hb _ (gt_mem (l := rs) (i := i) (by omega))
  generalize hx : gt rs i = x at ld hby
  obtain ⟨ha, hb', hc', hd, he, hf⟩ := hby
  have ta1 := Int.tmod_lt_of_pos x.a (show (0 : Int) < 5 by decide)
  have ta2 := Int.tmod_nonneg (5 : Int) ha.1
  have tb1 := Int.tmod_lt_of_pos x.b (show (0 : Int) < 5 by decide)
  have tb2 := Int.tmod_nonneg (5 : Int) hb'.1
  have tf1 := Int.tmod_lt_of_pos x.f (show (0 : Int) < 127 by decide)
  have tf2 := Int.tmod_nonneg (127 : Int) hf.1
  have wa : IntKind.i64.wrap x.a = x.a := wrap_id (by omega) (by omega)
  have wb : IntKind.i64.wrap x.b = x.b := wrap_id (by omega) (by omega)
  have wc : IntKind.i64.wrap x.c = x.c := wrap_id (by omega) (by omega)
  have wd : IntKind.i64.wrap x.d = x.d := wrap_id (by omega) (by omega)
  have we : IntKind.i64.wrap x.e = x.e := wrap_id (by omega) (by omega)
  have wa5 : IntKind.i64.wrap (1 + x.a.tmod 5) = 1 + x.a.tmod 5 := wrap_id (by omega) (by omega)
  have wb5 : IntKind.i64.wrap (1 + x.b.tmod 5) = 1 + x.b.tmod 5 := wrap_id (by omega) (by omega)
  have wc5 : IntKind.i64.wrap (x.c * 5) = x.c * 5 := wrap_id (by omega) (by omega)
  have wd5 : IntKind.i64.wrap (1 + x.d) = 1 + x.d := wrap_id (by omega) (by omega)
  have wf : IntKind.u8.wrap (x.f.tmod 127 + 1) = x.f.tmod 127 + 1 := by
    simp only [IntKind.wrap, IntKind.bits, IntKind.signed, Bool.false_and, Bool.false_eq_true, if_false]
    omega
  have wi : IntKind.i64.wrap ((i : Int) + 1) = (i : Int) + 1 := wrap_id (by omega) (by omega)
  have en : netL rs (i + 1) = if 1 + x.a.tmod 5 = 1 + x.b.tmod 5 then netL rs i else netL rs i ++ [legR i x] := by
    rw [netL, hx, ite_not]; rfl
  by_cases hne : 1 + x.a.tmod 5 = 1 + x.b.tmod 5
  · rw [if_pos hne] at en
    simp only [n53, r53, g2, g3, g13, g14, g15, hlt, ld, ix, hlimG, wa, wb, wc, wd, we, wa5, wb5, wc5, wd5, wf, wi, eq_true hne, SB, Nat.reduceLT, callee, aOp, ne_eq, Nat.reduceEqDiff, aBin, aUn, if_true, if_false, reduceCtorEq, frame0, place, notTuple, Nat.reduceAdd, Nat.reduceLeDiff, resVal, dite_true, dite_false, Int.reduceEq, Int.reduceLT, Int.reduceLE]
    exact hN (i + 1, pw, cw) _ _ ⟨by show i + 1 ≤ n; omega, (by simp only [g2, FB, Nat.reduceEqDiff]), (by simp only [g3, FB, Nat.reduceEqDiff]), (by simp only [g13, FB, Nat.reduceEqDiff]), (by simp only [g14, FB, Nat.reduceEqDiff]), by rfl, hC.app, (Ext.refl.app).cells hA, (Ext.refl.app).cells hP, by simp only [en]; exact (Ext.refl.app).cells hB, by simp only [en]; exact hO.app _⟩ (by show n - (i + 1) < n - i; omega)
  rw [if_neg hne] at en
  obtain ⟨G4, e4, O4, C4, hl4⟩ := Own.moreF hO (lim' := lim) (bytes := 64) (by omega) encL_len (by decide) [legR i x] (by simp) (by have := netL_len rs i; unfold maxBytes; simp; omega) (by have := netL_len rs i; simp; omega) [.cells false [.int .u8 x.a, .int .u8 x.b, .int .u8 x.c, .int .u8 x.d, .int .u8 x.e, .int .u8 x.f], .cells false (encL (legR i x)), .cells false (encL (legR i x))] (x := .slice (some ⟨G.length + 2, 0, none⟩) 1 1) (str := false)
    (first_slice (m := [legR i x]) (Sl.row (ro := false) encL_len (by rw [hget_new]; rfl))) rfl
  have hpw : ∀ j, j ∈ opB pw → H.length + 3 ≤ j := fun j hj => by
    cases hpe : pw with
    | none => rw [hpe] at hj; cases hj
    | some a => rw [hpe] at hj; have := hO.block hpe; simp [opB] at hj; omega
  generalize hp' : (G ++ [Blk.cells false [.int .u8 x.a, .int .u8 x.b, .int .u8 x.c, .int .u8 x.d, .int .u8 x.e, .int .u8 x.f], .cells false (encL (legR i x)), .cells false (encL (legR i x))]).length = r at e4 O4 hl4
  have hr' : G.length ≤ r := by rw [← hp']; simp
  generalize loose 8 = c' at e4 O4
  simp only [List.length_cons, List.length_nil, Nat.zero_add, encL, legR] at e4
  have hB4 := C4.cells hB fun hm => by have := hpw _ hm; omega
  have hA4 := C4.cells hA fun hm => by have := hpw _ hm; omega
  have hP4 := C4.cells hP fun hm => by have := hpw _ hm; omega
  obtain ⟨G5, e5, h5, m5⟩ := mut_set (hget_alive hB4) (.cells false [.slice (some ⟨H.length + 1, 0, none⟩) 5 5, .slice (some ⟨r, 0, none⟩) ((netL rs i).length + 1) c'])
  have X4 := fun X => (Ext.refl.app (X := X)).cells hB4
  have hlim2 : lim ≤ H.length + 2 := by omega
  simp only [n53, r53, g2, g3, g13, g14, g15, hlt, ld, ix, hlimG, wa, wb, wc, wd, we, wa5, wb5, wc5, wd5, wf, wi, eq_false hne, hXB, e4, X4, e5, hlim2, SB, Nat.reduceLT, callee, aOp, ne_eq, Nat.reduceEqDiff, aBin, aUn, if_true, if_false, reduceCtorEq, frame0, place, notTuple, Nat.reduceAdd, Nat.reduceLeDiff, resVal, dite_true, dite_false, Int.reduceEq, Int.reduceLT, Int.reduceLE]
  exact hN (i + 1, some ⟨r, 0, none⟩, c') _ _ ⟨by show i + 1 ≤ n; omega, (by simp only [g2, FB, Nat.reduceEqDiff]), (by simp only [g3, FB, Nat.reduceEqDiff]), (by simp only [g13, FB, Nat.reduceEqDiff]), (by simp only [g14, FB, Nat.reduceEqDiff]), by rfl, ((hC.trans' C4 fun j hj hjl => by have := hpw j hj; omega).mut m5 (.inr (by omega))).app, (Ext.refl.app).cells (m5.cells hA4 (by omega)), (Ext.refl.app).cells (m5.cells hP4 (by omega)),
    by simp only [en, List.length_append, List.length_singleton]; exact (Ext.refl.app).cells h5, by simp only [en]; exact ((O4.mut m5 fun a ha e => by cases ha; simp at e; omega).le (by omega)).app _⟩ (by show n - (i + 1) < n - i; omega)
structure Lk where
  (a b c : Int)
  deriving DecidableEq, Inhabited
def encK (x : Lk) : List Value := [.int .u8 x.a, .int .u8 x.b, .int .u16 x.c]
theorem encK_len (x : Lk) : (encK x).length = 3 := id rfl
def ByK (x : Lk) : Prop := (0 ≤ x.a ∧ x.a ≤ 255) ∧ (0 ≤ x.b ∧ x.b ≤ 255) ∧ (0 ≤ x.c ∧ x.c ≤ 65535)
def timeN (ls : List Lk) : Nat → Int
  | 0 => 14400
  | n + 1 => timeN ls n + (gt ls n).c.tmod 2000
def kinds : List Int := [1, 2, 3, 2, 4]
def evN (ls : List Lk) (i : Nat) : Ev := ⟨7, 1 + (gt ls i).a.tmod 6, 1, gt kinds ((gt ls i).b.tmod 5).toNat, timeN ls (i + 1), timeN ls (i + 1), timeN ls (i + 1)⟩
def seenN (ls : List Lk) (n : Nat) : List Ev := (List.range n).map (evN ls)
theorem seenN_len {ls : List Lk} {n : Nat} : (seenN ls n).length = n := by simp [seenN]
def encU (x : Int) : List Value := [.int .u8 x]
theorem encU_len (x : Int) : (encU x).length = 1 := id rfl
theorem timeN_bnd {ls : List Lk} (hb : ∀ x ∈ ls, ByK x) : ∀ n, n ≤ ls.length → 14400 ≤ timeN ls n ∧ timeN ls n ≤ 14400 + 2000 * n
  | 0, _ => ⟨Int.le_refl _, by show (14400 : Int) ≤ _; omega⟩
  | n + 1, h => by
    have h1 := timeN_bnd hb n (by omega)
    have h2 := (hb _ (gt_mem (l := ls) (i := n) (by omega))).2.2
    have h3 := Int.tmod_lt_of_pos (gt ls n).c (show (0 : Int) < 2000 by decide)
    have h4 := Int.tmod_nonneg (2000 : Int) h2.1
    rw [timeN]
    omega
theorem Seen_ok [OB] {lim c k : Nat} {p : Option Addr} {ls : List Lk} {H : Heap} {Q : Value → Heap → Prop} (hs : Sl H encK 3 p ls) (hb : ∀ x ∈ ls, ByK x) (hl : ls.length < 2 ^ 63) (hc : CapOk 3 c ls.length) (hk : k ≤ 40) (hlim : lim ≤ H.length)
    (hQ : ∀ G q cq, Chg [] H G → Own H.length G encE 7 q cq (seenN ls (min ls.length k)) → Q (.slice q (min ls.length k) cq) G) :
    CallR E false lim 54 [.slice p ls.length c, .int .i64 (k : Int)] H Q := by
  refine runs' (by decide) e54 rfl ?_
  rw [b54, c54]
  obtain ⟨n, hn⟩ : ∃ n, min ls.length k = n := ⟨_, rfl⟩
  rw [hn] at hQ
  have emin : min (ls.length : Int) (k : Int) = (n : Int) := by omega
  obtain ⟨q1, k1, x1, s1, _, _, _⟩ := slice_cut (vlo := none) (vhi := some (.int .i64 (n : Int))) (lo := 0) (hi := n) hs hc encK_len (fun cap hcap => by rw [bv_010 (by omega) (by omega), Int.toNat_natCast]) (Nat.zero_le _) (by omega) (by omega)
  rw [List.drop_zero] at s1
  simp only [Nat.sub_zero] at x1
  have hsl : (ls.take n).length = n := by rw [List.length_take]; omega
  simp only [n54, r54, setAll_full, hlim, min_v, emin, x1, SB, Nat.reduceLT, callee, aOp, ne_eq, Nat.reduceEqDiff, aBin, aUn, if_true, if_false, reduceCtorEq, frame0, place, notTuple, Nat.reduceAdd, Nat.reduceLeDiff, resVal, dite_true, dite_false, Int.reduceEq, Int.reduceLT, Int.reduceLE]
  refine Ret_rounds (fun s : Nat × Option Addr × Nat => n - s.1) (fun s fr G => s.1 ≤ n ∧ fr 5 = .slice s.2.1 s.1 s.2.2 ∧ fr 6 = .int .i64 (timeN ls s.1) ∧ fr 15 = .slice q1 n k1 ∧ fr 16 = .int .i64 (n : Int) ∧ fr 17 = .int .i64 (s.1 : Int) ∧ Chg [] H G ∧ Own H.length G encE 7 s.2.1 s.2.2 (seenN ls s.1)) (0, none, 0)
    ⟨Nat.zero_le _, by rfl, by rfl, (by simp only [FB, Nat.reduceEqDiff]), (by simp only [FB, Nat.reduceEqDiff]), by rfl, Chg.refl.app, .nil⟩ ?_
  rintro ⟨i, pw, cw⟩ fr G ⟨hi, g5, g6, g15, g16, g17, hC, hO⟩ hN
  simp only at hi g5 g6 g17 hO
  rw [Ret_code l54_1.eq_1]
  refine Ret_pad ?_
  have hlG := hC.len
  by_cases hlt : i < n
  case neg =>
    obtain rfl : i = n := by omega
    simp only [n54, r54, g5, g6, g15, g16, g17, hlt, SB, Nat.reduceLT, callee, aOp, ne_eq, Nat.reduceEqDiff, aBin, aUn, if_true, if_false, reduceCtorEq, frame0, place, notTuple, Nat.reduceAdd, Nat.reduceLeDiff, resVal, dite_true, dite_false, Int.reduceEq, Int.reduceLT, Int.reduceLE]
    exact hQ _ _ _ hC.app (hO.app _)
  have hss := (hC.sl s1 (by simp))
  have ld := fun X => (hss.app X).loadCells encK_len (i := i) (by omega)
  have ix := fun c (k : IntKind) (H1 : Heap) => hss.idx (c := c) (k := k) (H1 := H1) (i := i) (by omega)
  have eg : gt (ls.take n) i = gt ls i := gt_take hlt
  rw [eg] at ld
  rw [hsl] at ix
  simp only [encK] at ld
  have hlimG : lim ≤ G.length := by omega
  have hby := hb _ (gt_mem (l := ls) (i := i) (by omega))
  have htm := timeN_bnd hb i (by omega)
  have ht : timeN ls (i + 1) = timeN ls i + (gt ls i).c.tmod 2000 := rfl
  have hev : evN ls i = ⟨7, 1 + (gt ls i).a.tmod 6, 1, gt kinds ((gt ls i).b.tmod 5).toNat, timeN ls (i + 1), timeN ls (i + 1), timeN ls (i + 1)⟩ := rfl
  have es : seenN ls (i + 1) = seenN ls i ++ [evN ls i] := by unfold seenN; rw [List.range_succ, List.map_append, List.map_singleton]
  generalize hx : gt ls i = x at ld hby ht hev
  obtain ⟨ha, hb', hc'⟩ := hby
  have ta1 := Int.tmod_lt_of_pos x.a (show (0 : Int) < 6 by decide)
  have ta2 := Int.tmod_nonneg (6 : Int) ha.1
  have tb1 := Int.tmod_lt_of_pos x.b (show (0 : Int) < 5 by decide)
  have tb2 := Int.tmod_nonneg (5 : Int) hb'.1
  have tc1 := Int.tmod_lt_of_pos x.c (show (0 : Int) < 2000 by decide)
  have tc2 := Int.tmod_nonneg (2000 : Int) hc'.1
  have wa : IntKind.i64.wrap x.a = x.a := wrap_id (by omega) (by omega)
  have wc : IntKind.i64.wrap x.c = x.c := wrap_id (by omega) (by omega)
  have wa6 : IntKind.i64.wrap (1 + x.a.tmod 6) = 1 + x.a.tmod 6 := wrap_id (by omega) (by omega)
  have wt : IntKind.i64.wrap (timeN ls i + x.c.tmod 2000) = timeN ls (i + 1) := by rw [ht]; exact wrap_id (by omega) (by omega)
  have wi : IntKind.i64.wrap ((i : Int) + 1) = ((i + 1 : Nat) : Int) := wrap_nat (by omega)
  obtain ⟨j, hj⟩ := Int.eq_ofNat_of_zero_le tb2
  rw [hj, Int.toNat_natCast] at hev
  have hj5 : j < kinds.length := by show j < 5; omega
  have kx : ∀ (A : Nat) (kk : IntKind) (H1 : Heap), idxK 1 (.slice (some ⟨A, 0, none⟩) 5 5) (.int kk (j : Int)) H1 = some (.pointer (some ⟨A, j, none⟩), H1) := fun A kk H1 => by
    have := (Sl.row (H := H1 ++ []) (R := A) (l := kinds) (ro := false) (enc := encU) encU_len (e := 1))
    simp [idxK, addr_add]
    omega
  have kj : [Value.int .u8 1, Value.int .u8 2, Value.int .u8 3, Value.int .u8 2, Value.int .u8 4][j]? = some (.int .u8 (gt kinds j)) := by
    have : j = 0 ∨ j = 1 ∨ j = 2 ∨ j = 3 ∨ j = 4 := by omega
    rcases this with rfl | rfl | rfl | rfl | rfl <;> rfl
  have hrl := seenN_len (ls := ls) (n := i)
  obtain ⟨G4, e4, O4, C4, hl4⟩ := Own.moreF hO (lim' := lim) (bytes := 56) (by omega) encE_len (by decide) [evN ls i] (by simp) (by rw [hrl]; unfold maxBytes; simp; omega) (by rw [hrl]; simp; omega) [.cells false [.int .u8 x.a, .int .u8 x.b, .int .u16 x.c], .cells false (encE (evN ls i)), .cells false [.int .u8 1, .int .u8 2, .int .u8 3, .int .u8 2, .int .u8 4], .cells false (encE (evN ls i))] (x := .slice (some ⟨G.length + 3, 0, none⟩) 1 1) (str := false)
    (first_slice (m := [evN ls i]) (Sl.row (ro := false) encE_len (by rw [hget_new]; rfl))) rfl
  rw [hrl] at e4
  generalize hp' : (G ++ [Blk.cells false [.int .u8 x.a, .int .u8 x.b, .int .u16 x.c], .cells false (encE (evN ls i)), .cells false [.int .u8 1, .int .u8 2, .int .u8 3, .int .u8 2, .int .u8 4], .cells false (encE (evN ls i))]).length = r at e4 O4 hl4
  have hr' : G.length ≤ r := by rw [← hp']; simp
  generalize loose 7 = c' at e4 O4
  rw [hev] at e4
  simp only [List.length_cons, List.length_nil, Nat.zero_add, encE] at e4
  have hpw : ∀ j, j ∈ opB pw → H.length ≤ j := fun j hj => by
    cases hpe : pw with
    | none => rw [hpe] at hj; cases hj
    | some a => rw [hpe] at hj; have := hO.block hpe; simp [opB] at hj; omega
  simp only [n54, r54, g5, g6, g15, g16, g17, hlt, ld, ix, hlimG, wa, wc, wa6, wt, wi, seen_ok, setAll_full, hj, kx, kj, e4, SB, Nat.reduceLT, callee, aOp, ne_eq, Nat.reduceEqDiff, aBin, aUn, if_true, if_false, reduceCtorEq, frame0, place, notTuple, Nat.reduceAdd, Nat.reduceLeDiff, resVal, dite_true, dite_false, Int.reduceEq, Int.reduceLT, Int.reduceLE]
  exact hN (i + 1, some ⟨r, 0, none⟩, c') _ _ ⟨by show i + 1 ≤ n; omega, by rfl, by rfl, (by simp only [g15, FB, Nat.reduceEqDiff]), (by simp only [g16, FB, Nat.reduceEqDiff]), by rfl, (hC.trans' C4 fun j hj hjl => by have := hpw j hj; omega).app, by simp only [es]; exact (O4.le (by omega)).app _⟩ (by show n - (i + 1) < n - i; omega)
def LexLE : List Int → List Int → Prop
  | [], _ => True
  | _ :: _, [] => False
  | x :: l, y :: m => x < y ∨ (x = y ∧ LexLE l m)
theorem LexLE.refl : ∀ l, LexLE l l
  | [] => trivial
  | x :: l => .inr ⟨rfl, LexLE.refl l⟩
theorem LexLE.trans : ∀ {a b c : List Int}, LexLE a b → LexLE b c → LexLE a c
  | [], _, _, _, _ => trivial
  | x :: a, [], c, h, _ => by cases h
  | x :: a, y :: b, [], _, h => by cases h
  | x :: a, y :: b, z :: c, h1, h2 => by
    rcases h1 with h1 | ⟨rfl, h1⟩
    · rcases h2 with h2 | ⟨rfl, h2⟩
      · exact .inl (by omega)
      · exact .inl h1
    · rcases h2 with h2 | ⟨rfl, h2⟩
      · exact .inl h2
      · exact .inr ⟨rfl, h1.trans h2⟩
def BE (c k : Int) (l : List Int) (c' k' : Int) (l' : List Int) : Prop := c < c' ∨ (c = c' ∧ (k' < k ∨ (k = k' ∧ LexLE l l')))
theorem BE.refl {c k : Int} {l : List Int} : BE c k l c k l := .inr ⟨rfl, .inr ⟨rfl, LexLE.refl l⟩⟩
theorem BE.trans {a b c x y z : Int} {l m r : List Int} (h1 : BE a x l b y m) (h2 : BE b y m c z r) : BE a x l c z r := by
  rcases h1 with h1 | ⟨rfl, h1⟩
  · rcases h2 with h2 | ⟨rfl, h2⟩
    · exact .inl (by omega)
    · exact .inl h1
  · rcases h2 with h2 | ⟨rfl, h2⟩
    · exact .inl h2
    · refine .inr ⟨rfl, ?_⟩
      rcases h1 with h1 | ⟨rfl, h1⟩
      · rcases h2 with h2 | ⟨rfl, h2⟩
        · exact .inl (by omega)
        · exact .inl h1
      · rcases h2 with h2 | ⟨rfl, h2⟩
        · exact .inl h2
        · exact .inr ⟨rfl, h1.trans h2⟩
theorem BE.lift {c k c' k' d i : Int} {l l' : List Int} (h : BE c k l c' k' l') : BE (d + c) (k + 1) (i :: l) (d + c') (k' + 1) (i :: l') := by
  rcases h with h | ⟨rfl, h | ⟨rfl, h⟩⟩
  · exact .inl (by omega)
  · exact .inr ⟨rfl, .inl (by omega)⟩
  · exact .inr ⟨rfl, .inr ⟨rfl, .inr ⟨rfl, h⟩⟩⟩
section
variable {P : List Int} {L : List Leg} {es : List Ev}
def rcI (P : List Int) (L : List Leg) (es : List Ev) : List Int → Int
  | [] => 0
  | [i] => 30 * ((es.length : Int) - 1 - i)
  | i :: j :: l => priceN P L (gt es i.toNat) (gt es j.toNat) + 30 * (j - i - 1) + rcI P L es (j :: l)
def Asc (n : Nat) : List Int → Prop
  | [] => True
  | [i] => 0 ≤ i ∧ i < n
  | i :: j :: l => 0 ≤ i ∧ i < j ∧ Asc n (j :: l)
theorem Asc.head {n : Nat} : ∀ {i : Int} {l : List Int}, Asc n (i :: l) → 0 ≤ i ∧ i < n
  | i, [], h => h
  | i, j :: l, h => ⟨h.1, by have := h.2.2.head; have := h.2.1; omega⟩
theorem rowUp_congr {T T' : List Tri} {i : Nat} : ∀ m, m ≤ es.length → (∀ j, es.length - m ≤ j → j < es.length → gt T j = gt T' j) → rowUp P L es T i m = rowUp P L es T' i m
  | 0, _, _ => rfl
  | m + 1, hm, h => by
    rw [rowUp, rowUp, rowUp_congr m (by omega) fun j h1 h2 => h j (by omega) h2]
    unfold candN
    rw [h _ (by omega) (by omega)]
theorem tableN_keep : ∀ d k, k + d ≤ es.length → ∀ j, es.length - k ≤ j → j < es.length → gt (tableN P L es (k + d)) j = gt (tableN P L es k) j
  | 0, k, _, j, _, _ => rfl
  | d + 1, k, h, j, h1, h2 => by
    rw [← Nat.add_assoc, tableN, gt_set (by rw [tableN_len]; omega), if_neg (by omega)]
    exact tableN_keep d k (by omega) j h1 h2
theorem table_row {i : Nat} (hi : i < es.length) : gt (tableN P L es es.length) i = rowUp P L es (tableN P L es es.length) i (es.length - 1 - i) := by
  obtain ⟨k, hk⟩ : ∃ k, es.length - 1 - i = k := ⟨_, rfl⟩
  have h1 := tableN_keep (P := P) (L := L) (es := es) (es.length - (k + 1)) (k + 1) (by omega) i (by omega) hi
  rw [show k + 1 + (es.length - (k + 1)) = es.length by omega] at h1
  rw [h1, tableN, gt_set (by rw [tableN_len]; omega), if_pos (by omega), hk, show es.length - 1 - k = i by omega]
  refine rowUp_congr k (by omega) fun j h2 h3 => ?_
  have h4 := tableN_keep (P := P) (L := L) (es := es) (es.length - k) k (by omega) j h2 h3
  rw [show k + (es.length - k) = es.length by omega] at h4
  exact h4.symm
variable {F : List Tri} {n : Nat}
theorem chain_fuel (hF : ∀ j, j < n → NextOk n j (gt F j)) : ∀ (f : Nat) (x : Int), (x < 0 ∨ (x < n ∧ (n : Int) - x ≤ f)) → chainN F (f + 1) x = chainN F f x
  | 0, x, h => by
    have e : chainN F (0 + 1) x = if x < 0 then [] else x :: chainN F 0 (gt F x.toNat).2.2 := rfl
    rw [e, if_pos (by omega)]
    rfl
  | f + 1, x, h => by
    have e : chainN F (f + 1 + 1) x = if x < 0 then [] else x :: chainN F (f + 1) (gt F x.toNat).2.2 := rfl
    have e' : chainN F (f + 1) x = if x < 0 then [] else x :: chainN F f (gt F x.toNat).2.2 := rfl
    rw [e, e']
    split
    · rfl
    · rename_i h0
      congr 1
      refine chain_fuel hF f _ ?_
      rcases hF x.toNat (by omega) with e | e
      · exact .inl (by omega)
      · exact .inr ⟨e.2, by omega⟩
theorem chain_neg {x : Int} {f : Nat} (hx : x < 0) : chainN F f x = [] := by
  cases f with
  | zero => rfl
  | succ f => rw [chainN, if_pos hx]
theorem chain_cons (hF : ∀ j, j < n → NextOk n j (gt F j)) {i : Nat} (hi : i < n) : chainN F n (i : Int) = (i : Int) :: chainN F n (gt F i).2.2 := by
  obtain ⟨m, rfl⟩ : ∃ m, n = m + 1 := ⟨n - 1, by omega⟩
  rw [chainN, if_neg (by omega), Int.toNat_natCast, chain_fuel hF m]
  rcases hF i hi with e | e
  · exact .inl (by omega)
  · exact .inr ⟨e.2, by omega⟩
structure RestOk (P : List Int) (L : List Leg) (es : List Ev) (x : Tri) (l : List Int) : Prop where
  cost : x.1 = rcI P L es l
  count : x.2.1 = l.length
  asc : Asc es.length l
theorem row_best (hF : ∀ j, j < es.length → NextOk es.length j (gt F j)) {i : Nat} (hi : i < es.length)
    (ih : ∀ j, i < j → j < es.length → RestOk P L es (gt F j) (chainN F es.length j) ∧ ∀ l, Asc es.length ((j : Int) :: l) → BE (gt F j).1 (gt F j).2.1 (chainN F es.length j) (rcI P L es (j :: l)) ((j :: l : List Int).length : Int) (j :: l)) :
    ∀ m, m ≤ es.length - 1 - i → RestOk P L es (rowUp P L es F i m) (i :: chainN F es.length (rowUp P L es F i m).2.2) ∧ ((rowUp P L es F i m).2.2 = -1 ∨ ((es.length : Int) - m ≤ (rowUp P L es F i m).2.2 ∧ (rowUp P L es F i m).2.2 < es.length)) ∧
      ∀ l, Asc es.length ((i : Int) :: l) → (∀ j r, l = j :: r → (es.length : Int) - m ≤ j) → BE (rowUp P L es F i m).1 (rowUp P L es F i m).2.1 (i :: chainN F es.length (rowUp P L es F i m).2.2) (rcI P L es (i :: l)) ((i :: l : List Int).length : Int) (i :: l)
  | 0, _ => by
    have e : chainN F es.length (-1) = [] := chain_neg (by omega)
    refine ⟨⟨?_, ?_, ?_⟩, .inl rfl, fun l ha hl => ?_⟩
    · show _ = rcI P L es (i :: chainN F es.length (-1)); rw [e]; rfl
    · show _ = ((i :: chainN F es.length (-1) : List Int).length : Int); rw [e]; rfl
    · show Asc _ (i :: chainN F es.length (-1)); rw [e]; exact ⟨by omega, by omega⟩
    · cases l with
      | nil => show BE _ _ (i :: chainN F es.length (-1)) _ _ _; rw [e]; exact BE.refl
      | cons j r =>
        have h1 := hl j r rfl
        have h2 := (ha.2.2).head
        omega
  | m + 1, hm => by
    obtain ⟨⟨c1, c2, c3⟩, hnx, hbest⟩ := row_best hF hi ih m (by omega)
    generalize hj : es.length - 1 - m = j
    have hjn : j < es.length := by omega
    obtain ⟨⟨d1, d2, d3⟩, hd⟩ := ih j (by omega) hjn
    have hcj := chain_cons (F := F) hF hjn
    have er : rowUp P L es F i (m + 1) = pickR (rowUp P L es F i m) (candN P L es F i j) := by rw [rowUp, hj]
    rw [er]
    generalize hx : rowUp P L es F i m = x at c1 c2 c3 hnx hbest
    generalize hr : candN P L es F i j = r
    have r1 : r.1 = priceN P L (gt es i) (gt es j) + 30 * ((j : Int) - i - 1) + (gt F j).1 := by rw [← hr]; rfl
    have r2 : r.2.1 = (gt F j).2.1 + 1 := by rw [← hr]; rfl
    have r3 : r.2.2 = (j : Int) := by rw [← hr]; rfl
    have rb : ∀ l, Asc es.length ((i : Int) :: (j : Int) :: l) → BE r.1 r.2.1 (i :: chainN F es.length j) (rcI P L es (i :: j :: l)) ((i :: j :: l : List Int).length : Int) (i :: j :: l) := fun l hl => by
      have := (hd l hl.2.2).lift (d := priceN P L (gt es i) (gt es j) + 30 * ((j : Int) - i - 1)) (i := (i : Int))
      rw [r1, r2]
      exact this
    unfold pickR
    split
    · rename_i hless
      unfold lessR at hless
      rw [decide_eq_true_eq] at hless
      refine ⟨⟨c1, c2, c3⟩, by omega, fun l ha hl => ?_⟩
      cases l with
      | nil => exact hbest [] ha (fun j r h => by cases h)
      | cons a t =>
        by_cases hja : a = (j : Int)
        · subst hja
          have h1 := rb t ha
          refine BE.trans (b := r.1) (y := r.2.1) (m := i :: chainN F es.length j) ?_ h1
          rcases hless with h | ⟨h, h'⟩
          · exact .inl h
          · exact .inr ⟨h, .inl h'⟩
        · refine hbest _ ha fun a' t' e => ?_
          have h1 := hl a t rfl
          cases e
          omega
    · rename_i hless
      unfold lessR at hless
      rw [decide_eq_true_eq] at hless
      rw [r3]
      refine ⟨⟨?_, ?_, ?_⟩, .inr ⟨by omega, by omega⟩, fun l ha hl => ?_⟩
      · rw [r1, d1, hcj]; rfl
      · rw [r2, d2]; simp
      · rw [hcj]; rw [hcj] at d3; exact ⟨by omega, by omega, d3⟩
      · have hbx : BE r.1 r.2.1 (i :: chainN F es.length j) x.1 x.2.1 (i :: chainN F es.length x.2.2) := by
          rcases Int.lt_trichotomy r.1 x.1 with h | h | h
          · exact .inl h
          · refine .inr ⟨h, ?_⟩
            rcases Int.lt_trichotomy x.2.1 r.2.1 with h' | h' | h'
            · exact .inl h'
            · refine .inr ⟨h'.symm, .inr ⟨rfl, ?_⟩⟩
              rcases hnx with e | ⟨e1, e2⟩
              · exfalso
                rw [e, chain_neg (by omega)] at c2
                rw [hcj] at d2
                simp at c2 d2
                omega
              · obtain ⟨q, hq⟩ := Int.eq_ofNat_of_zero_le (show 0 ≤ x.2.2 by omega)
                rw [hq, hcj, chain_cons (F := F) hF (show q < es.length by omega)]
                exact .inl (by omega)
            · exact absurd (.inr ⟨h.symm, h'⟩) hless
          · exact absurd (.inl h) hless
        cases l with
        | nil => exact hbx.trans (hbest [] ha (fun j r h => by cases h))
        | cons a t =>
          by_cases hja : a = (j : Int)
          · subst hja
            exact rb t ha
          · refine hbx.trans (hbest _ ha fun a' t' e => ?_)
            have h1 := hl a t rfl
            cases e
            omega
end
section
variable {P : List Int} {L : List Leg} {es : List Ev}
theorem rest_best : ∀ (k i : Nat), es.length - i ≤ k → i < es.length → RestOk P L es (gt (tableN P L es es.length) i) (chainN (tableN P L es es.length) es.length i) ∧
    ∀ l, Asc es.length ((i : Int) :: l) → BE (gt (tableN P L es es.length) i).1 (gt (tableN P L es es.length) i).2.1 (chainN (tableN P L es es.length) es.length i) (rcI P L es (i :: l)) ((i :: l : List Int).length : Int) (i :: l)
  | 0, i, h, hi => by omega
  | k + 1, i, h, hi => by
    have hF : ∀ j, j < es.length → NextOk es.length j (gt (tableN P L es es.length) j) := fun j hj => tableN_next _ (Nat.le_refl _) j (by omega) hj
    obtain ⟨h1, h2, h3⟩ := row_best hF hi (fun j h1 h2 => rest_best k j (by omega) h2) (es.length - 1 - i) (Nat.le_refl _)
    rw [← table_row hi] at h1 h2 h3
    rw [← chain_cons hF hi] at h1 h3
    exact ⟨h1, fun l hl => h3 l hl fun j r e => by
      subst e
      have := hl.2.1
      omega⟩
theorem BE.add {c k c' k' : Int} {l l' : List Int} (d : Int) (h : BE c k l c' k' l') : BE (d + c) k l (d + c') k' l' := by
  rcases h with h | ⟨rfl, h⟩
  · exact .inl (by omega)
  · exact .inr ⟨rfl, h⟩
def tot (P : List Int) (L : List Leg) (es : List Ev) : List Int → Int
  | [] => 0
  | i :: l => 30 * i + rcI P L es (i :: l)
theorem top_best : ∀ m, m ≤ es.length → 0 < m → ∃ h : Nat, h < es.length ∧ es.length - m ≤ h ∧ (topN es.length (tableN P L es es.length) m).2.2 = h ∧ (topN es.length (tableN P L es es.length) m).1 = tot P L es (chainN (tableN P L es es.length) es.length h) ∧ (topN es.length (tableN P L es es.length) m).2.1 = (chainN (tableN P L es es.length) es.length h).length ∧
    ∀ j l, Asc es.length (j :: l) → (es.length : Int) - m ≤ j → BE (topN es.length (tableN P L es es.length) m).1 (topN es.length (tableN P L es es.length) m).2.1 (chainN (tableN P L es es.length) es.length h) (tot P L es (j :: l)) ((j :: l).length : Int) (j :: l)
  | 0, _, h => by omega
  | m + 1, hm, _ => by
    have hF : ∀ j, j < es.length → NextOk es.length j (gt (tableN P L es es.length) j) := fun j hj => tableN_next _ (Nat.le_refl _) j (by omega) hj
    generalize hi : es.length - 1 - m = i
    have hie : i < es.length := by omega
    have ⟨⟨c1, c2, c3⟩, hb⟩ := rest_best (P := P) (L := L) (es := es) es.length i (by omega) hie
    have hci := chain_cons (F := tableN P L es es.length) hF hie
    have et : topN es.length (tableN P L es es.length) (m + 1) = if (topN es.length (tableN P L es es.length) m).2.2 < 0 then topC (tableN P L es es.length) i else pickR (topN es.length (tableN P L es es.length) m) (topC (tableN P L es es.length) i) := by rw [topN, hi]
    generalize hr : topC (tableN P L es es.length) i = r at et
    have r1 : r.1 = 30 * (i : Int) + (gt (tableN P L es es.length) i).1 := by rw [← hr]; rfl
    have r2 : r.2.1 = (gt (tableN P L es es.length) i).2.1 := by rw [← hr]; rfl
    have r3 : r.2.2 = (i : Int) := by rw [← hr]; rfl
    have rt : r.1 = tot P L es (chainN (tableN P L es es.length) es.length i) := by rw [r1, c1, hci]; rfl
    have rl : r.2.1 = (chainN (tableN P L es es.length) es.length i).length := by rw [r2, c2]
    have rb : ∀ l, Asc es.length ((i : Int) :: l) → BE r.1 r.2.1 (chainN (tableN P L es es.length) es.length i) (tot P L es (i :: l)) ((i :: l : List Int).length : Int) (i :: l) := fun l hl => by
      rw [r1, r2]; exact (hb l hl).add _
    by_cases hm0 : m = 0
    · subst hm0
      have e0 : topN es.length (tableN P L es es.length) (0 + 1) = r := by rw [et, if_pos]; show (-1 : Int) < 0; decide
      rw [e0]
      refine ⟨i, hie, by omega, r3, rt, rl, fun j l hl hj => ?_⟩
      have := hl.head
      obtain rfl : j = (i : Int) := by omega
      exact rb l hl
    obtain ⟨h, h1, h2, h3, h4, h5, h6⟩ := top_best m (by omega) (by omega)
    rw [if_neg (by omega)] at et
    rw [et]
    generalize topN es.length (tableN P L es es.length) m = x at h3 h4 h5 h6
    unfold pickR
    split
    · rename_i hless
      unfold lessR at hless
      rw [decide_eq_true_eq] at hless
      refine ⟨h, h1, by omega, h3, h4, h5, fun j l hl hj => ?_⟩
      by_cases hji : j = (i : Int)
      · subst hji
        refine BE.trans (b := r.1) (y := r.2.1) ?_ (rb l hl)
        rcases hless with h | ⟨h, h'⟩
        · exact .inl h
        · exact .inr ⟨h, .inl h'⟩
      · exact h6 j l hl (by omega)
    · rename_i hless
      unfold lessR at hless
      rw [decide_eq_true_eq] at hless
      refine ⟨i, hie, by omega, r3, rt, rl, fun j l hl hj => ?_⟩
      by_cases hji : j = (i : Int)
      · subst hji
        exact rb l hl
      · refine BE.trans ?_ (h6 j l hl (by omega))
        rcases Int.lt_trichotomy r.1 x.1 with h' | h' | h'
        · exact .inl h'
        · refine .inr ⟨h', ?_⟩
          rcases Int.lt_trichotomy x.2.1 r.2.1 with q | q | q
          · exact .inl q
          · refine .inr ⟨q.symm, ?_⟩
            rw [hci, chain_cons (F := tableN P L es es.length) hF h1]
            exact .inl (by omega)
          · exact absurd (.inr ⟨h'.symm, q⟩) hless
        · exact absurd (.inl h') hless
theorem bestN_best (hn : 0 < es.length) : bestN P L es ≠ [] ∧ Asc es.length (bestN P L es) ∧ ∀ j l, Asc es.length (j :: l) → BE (tot P L es (bestN P L es)) ((bestN P L es).length : Int) (bestN P L es) (tot P L es (j :: l)) ((j :: l).length : Int) (j :: l) := by
  have hF : ∀ j, j < es.length → NextOk es.length j (gt (tableN P L es es.length) j) := fun j hj => tableN_next _ (Nat.le_refl _) j (by omega) hj
  obtain ⟨h, h1, h2, h3, h4, h5, h6⟩ := top_best (P := P) (L := L) (es := es) es.length (Nat.le_refl _) hn
  have e : bestN P L es = chainN (tableN P L es es.length) es.length h := by unfold bestN; rw [h3]
  rw [e]
  refine ⟨by rw [chain_cons hF h1]; simp, (rest_best es.length h (by omega) h1).1.asc, fun j l hl => ?_⟩
  have := h6 j l hl (by have := hl.head; omega)
  rw [h4, h5] at this
  exact this
theorem stepsN_cons {i j : Int} {l : List Int} : stepsN P L es (i :: j :: l) = (i, j, priceN P L (gt es i.toNat) (gt es j.toNat)) :: stepsN P L es (j :: l) := by
  unfold stepsN
  show (List.range (l.length + 1)).map _ = _
  rw [List.range_succ_eq_map, List.map_cons, List.map_map]
  rfl
theorem tot_cost : ∀ (l : List Int) (i : Int), tot P L es (i :: l) = costN P L es (i :: l)
  | [], i => by
    show 30 * i + 30 * ((es.length : Int) - 1 - i) = 30 * ((es.length : Int) - 1) + 0
    omega
  | j :: l, i => by
    have h := tot_cost l j
    have e1 : tot P L es (i :: j :: l) = 30 * i + (priceN P L (gt es i.toNat) (gt es j.toNat) + 30 * (j - i - 1) + rcI P L es (j :: l)) := rfl
    have e2 : tot P L es (j :: l) = 30 * j + rcI P L es (j :: l) := rfl
    have e3 : costN P L es (i :: j :: l) = 30 * ((es.length : Int) - (l.length + 1 + 1 : Nat)) + sumN (stepsN P L es (i :: j :: l)) := rfl
    have e4 : costN P L es (j :: l) = 30 * ((es.length : Int) - (l.length + 1 : Nat)) + sumN (stepsN P L es (j :: l)) := rfl
    rw [e1, e3, stepsN_cons, sumN]
    rw [e2, e4] at h
    simp only
    omega
theorem asc_of {n : Nat} : ∀ (ks : List Int), (∀ i, i < ks.length → ascOk n ks i) → Asc n ks
  | [], _ => trivial
  | [i], h => ⟨(h 0 (by simp)).1, (h 0 (by simp)).2.1⟩
  | i :: j :: l, h => by
    refine ⟨(h 0 (by simp)).1, (h 1 (by simp)).2.2 (by omega), asc_of (j :: l) fun k hk => ?_⟩
    have h1 := h (k + 1) (by simp at hk ⊢; omega)
    refine ⟨h1.1, h1.2.1, fun h0 => ?_⟩
    have h2 := h1.2.2 (by omega)
    obtain ⟨q, rfl⟩ : ∃ q, k = q + 1 := ⟨k - 1, by omega⟩
    exact h2
theorem of_asc {n : Nat} : ∀ (ks : List Int), Asc n ks → ∀ i, i < ks.length → ascOk n ks i
  | [], _, i, hi => by cases hi
  | [a], h, i, hi => by
    obtain rfl : i = 0 := by simp at hi; omega
    exact ⟨h.1, h.2, fun h => by omega⟩
  | a :: b :: l, h, 0, hi => ⟨h.head.1, h.head.2, fun h => by omega⟩
  | a :: b :: l, h, 1, hi => ⟨h.2.2.head.1, h.2.2.head.2, fun _ => h.2.1⟩
  | a :: b :: l, h, i + 2, hi => by
    have h1 := of_asc (b :: l) h.2.2 (i + 1) (by simp at hi ⊢; omega)
    exact ⟨h1.1, h1.2.1, fun _ => h1.2.2 (by omega)⟩
theorem bestN_ok : KsOk es.length (bestN P L es) := by
  by_cases hn : 0 < es.length
  · obtain ⟨h1, h2, _⟩ := bestN_best (P := P) (L := L) hn
    exact ⟨fun h => absurd (List.length_eq_zero_iff.1 h) h1, of_asc _ h2⟩
  · have e : bestN P L es = [] := by
      have := chainN_len (T := tableN P L es es.length) es.length (topN es.length (tableN P L es es.length) es.length).2.2
      exact List.length_eq_zero_iff.1 (by unfold bestN; omega)
    exact ⟨fun _ => by omega, fun i hi => by rw [e] at hi; cases hi⟩
theorem best_all {ks : List Int} (hk : KsOk es.length ks) : BE (costN P L es (bestN P L es)) ((bestN P L es).length : Int) (bestN P L es) (costN P L es ks) (ks.length : Int) ks := by
  cases ks with
  | nil =>
    have h0 := hk.1 rfl
    have e : bestN P L es = [] := by
      have := chainN_len (T := tableN P L es es.length) es.length (topN es.length (tableN P L es es.length) es.length).2.2
      exact List.length_eq_zero_iff.1 (by unfold bestN; omega)
    rw [e]
    exact BE.refl
  | cons j l =>
    have ha := asc_of _ hk.2
    have hn : 0 < es.length := by have := ha.head; omega
    obtain ⟨h1, h2, h3⟩ := bestN_best (P := P) (L := L) hn
    have := h3 j l ha
    rw [tot_cost] at this
    generalize bestN P L es = b at *
    cases b with
    | nil => exact absurd rfl h1
    | cons a t => rw [tot_cost] at this; exact this
end
section
variable {P : List Int} {L : List Leg} {es : List Ev}
theorem costN_nonneg {ks : List Int} (h : KsOk es.length ks) : 0 ≤ costN P L es ks := by
  have h1 := asc_len h.2
  have h2 := sumN_range (P := P) (L := L) (es := es) (ks := ks) (ks.length - 1)
  unfold costN stepsN
  omega
theorem KsOk.mono {n m : Nat} {ks : List Int} (h : KsOk n ks) (hn : 0 < n) (hm : n ≤ m) : KsOk m ks :=
  ⟨fun h0 => by have := h.1 h0; omega, fun i hi => by obtain ⟨a, b, c⟩ := h.2 i hi; exact ⟨a, by omega, c⟩⟩
def bestC (P : List Int) (L : List Leg) (es : List Ev) : Int := costN P L es (bestN P L es)
theorem bestC_le {ks : List Int} (h : KsOk es.length ks) : bestC P L es ≤ costN P L es ks := by
  rcases best_all (P := P) (L := L) h with h | ⟨h, _⟩
  · exact Int.le_of_lt h
  · exact Int.le_of_eq h
theorem bestC_nonneg : 0 ≤ bestC P L es := costN_nonneg bestN_ok
end
theorem kinds_range {j : Nat} (hj : j < 5) : 1 ≤ gt kinds j ∧ gt kinds j ≤ 4 := by
  have : j = 0 ∨ j = 1 ∨ j = 2 ∨ j = 3 ∨ j = 4 := by omega
  rcases this with rfl | rfl | rfl | rfl | rfl <;> decide
theorem seenN_get {ls : List Lk} {m i : Nat} (h : i < m) : gt (seenN ls m) i = evN ls i := by
  rw [gt_lt (by rw [seenN_len]; exact h)]; simp [seenN]
theorem seenN_right {ls : List Lk} (hb : ∀ x ∈ ls, ByK x) {m : Nat} (hm : m ≤ ls.length) (h40 : m ≤ 40) : EvsOk (seenN ls m) := fun i hi => by
  rw [seenN_len] at hi
  have hby := hb _ (gt_mem (l := ls) (i := i) (by omega))
  have t1 := timeN_bnd hb (i + 1) (by omega)
  have ta1 := Int.tmod_lt_of_pos (gt ls i).a (show (0 : Int) < 6 by decide)
  have ta2 := Int.tmod_nonneg (6 : Int) hby.1.1
  have tb1 := Int.tmod_lt_of_pos (gt ls i).b (show (0 : Int) < 5 by decide)
  have tb2 := Int.tmod_nonneg (5 : Int) hby.2.1.1
  have tc2 := Int.tmod_nonneg (2000 : Int) hby.2.2.1
  have kr := kinds_range (j := ((gt ls i).b.tmod 5).toNat) (by omega)
  have ht : timeN ls (i + 1) = timeN ls i + (gt ls i).c.tmod 2000 := rfl
  have mt : maxTime = 1051898399 := rfl
  unfold evOk
  rw [seenN_get hi]
  refine ⟨⟨?_, ?_, ?_, ?_, ?_, ?_⟩, ?_, ?_, fun h0 => ⟨?_, ?_⟩⟩
  · show (1 : Int) ≤ 7 ∧ (7 : Int) ≤ 999999; decide
  · show 1 ≤ 1 + (gt ls i).a.tmod 6 ∧ 1 + (gt ls i).a.tmod 6 ≤ 999999; omega
  · show (1 : Int) ≤ 1 ∧ (1 : Int) ≤ 999999; decide
  · exact kr
  · show 0 ≤ timeN ls (i + 1) ∧ timeN ls (i + 1) ≤ maxTime; omega
  · show 0 ≤ timeN ls (i + 1) ∧ timeN ls (i + 1) ≤ maxTime; omega
  · show 0 ≤ timeN ls (i + 1); omega
  · show timeN ls (i + 1) ≤ maxTime; omega
  · rw [seenN_get (by omega)]; rfl
  · obtain ⟨k, rfl⟩ : ∃ k, i = k + 1 := ⟨i - 1, by omega⟩
    rw [Nat.add_sub_cancel, seenN_get (by omega)]
    show timeN ls (k + 1) ≤ timeN ls (k + 1 + 1)
    omega
theorem gt_app_lt {α : Type} [Inhabited α] {l m : List α} {i : Nat} (h : i < l.length) : gt (l ++ m) i = gt l i := by
  rw [gt_lt (by simp; omega), gt_lt h, List.getElem_append_left h]
theorem gt_app_eq {α : Type} [Inhabited α] {l : List α} {x : α} : gt (l ++ [x]) l.length = x := by
  rw [gt_lt (by simp), List.getElem_append_right (Nat.le_refl _)]
  simp
theorem legs_snoc {P : List Int} {M : List Leg} {l : Leg} (h : LegsOk P M) (h1 : Fine l) (h2 : l.id ∉ M.map (·.id)) (h3 : l.frm ∈ P) (h4 : l.dst ∈ P) : LegsOk P (M ++ [l]) := fun i hi => by
  rw [List.length_append, List.length_singleton] at hi
  rcases Nat.lt_or_ge i M.length with h5 | h5
  · have := h i h5
    unfold lOk at *
    rw [gt_app_lt h5, List.take_append_of_le_length (by omega)]
    exact this
  · obtain rfl : i = M.length := by omega
    unfold lOk
    rw [gt_app_eq, List.take_append_of_le_length (Nat.le_refl _), List.take_length]
    exact ⟨h1, h2, h3, h4⟩
theorem in_P5 {a : Int} (h1 : 1 ≤ a) (h2 : a ≤ 5) : a ∈ P5 := by
  have : a = 1 ∨ a = 2 ∨ a = 3 ∨ a = 4 ∨ a = 5 := by omega
  rcases this with rfl | rfl | rfl | rfl | rfl <;> decide
theorem netL_ok {rs : List RL} (hb : ∀ x ∈ rs, ByR x) : ∀ n, n ≤ rs.length → n ≤ 10 → LegsOk P5 (netL rs n)
  | 0, _, _ => fun i hi => by cases hi
  | n + 1, hn, h10 => by
    have ih := netL_ok hb n (by omega) (by omega)
    rw [netL]
    split
    · rename_i hne
      obtain ⟨ha, hb', hc, hd, he, hf⟩ := hb _ (gt_mem (l := rs) (i := n) (by omega))
      have ta1 := Int.tmod_lt_of_pos (gt rs n).a (show (0 : Int) < 5 by decide)
      have ta2 := Int.tmod_nonneg (5 : Int) ha.1
      have tb1 := Int.tmod_lt_of_pos (gt rs n).b (show (0 : Int) < 5 by decide)
      have tb2 := Int.tmod_nonneg (5 : Int) hb'.1
      have te1 := Int.tmod_lt_of_pos (gt rs n).e (show (0 : Int) < 60 by decide)
      have te2 := Int.tmod_nonneg (60 : Int) he.1
      have tf1 := Int.tmod_lt_of_pos (gt rs n).f (show (0 : Int) < 127 by decide)
      have tf2 := Int.tmod_nonneg (127 : Int) hf.1
      refine legs_snoc ih ?_ ?_ ?_ ?_
      · unfold Fine legR at *
        simp only at *
        omega
      · intro hm
        obtain ⟨l, h1, h2⟩ := List.mem_map.1 hm
        obtain ⟨i, h3, rfl, _⟩ := netL_mem h1
        unfold legR at h2
        simp only at h2
        omega
      · refine in_P5 ?_ ?_ <;> (unfold legR; simp only; omega)
      · refine in_P5 ?_ ?_ <;> (unfold legR; simp only; omega)
    · exact ih
theorem plants5 : PlantsOk P5 := by decide
theorem netL_valid {rs : List RL} (hb : ∀ x ∈ rs, ByR x) {n : Nat} (hn : n ≤ rs.length) (h10 : n ≤ 10) : validN P5 (netL rs n) = 0 := by
  have h1 := netL_len rs n
  unfold validN
  rw [if_neg (by have : P5.length = 5 := rfl; omega), if_neg (by simpa using plants5), if_neg (by simpa using netL_ok hb n hn h10)]
theorem fine_seen {p t : Int} (h1 : 1 ≤ p) (h2 : p ≤ 999999) (h3 : 0 ≤ t) (h4 : t ≤ maxTime) : FineE (seenE p t) :=
  ⟨by show (1 : Int) ≤ 7 ∧ (7 : Int) ≤ 999999; decide, ⟨h1, h2⟩, by show (1 : Int) ≤ 1 ∧ (1 : Int) ≤ 999999; decide, by show (1 : Int) ≤ 2 ∧ (2 : Int) ≤ 4; decide, ⟨h3, h4⟩, ⟨h3, h4⟩⟩
instance : Inhabited (Leg × Int) := ⟨(default, 0)⟩
def arrW (w : List (Leg × Int)) (i : Nat) : Int := (gt w i).2 + (gt w i).1.mins
theorem isWay_at {L : List Leg} : ∀ {w : List (Leg × Int)} {p t q u : Int}, IsWay L p t w q u →
    (∀ i, i < w.length → (gt w i).1 ∈ L ∧ Dep (gt w i).1 (gt w i).2 ∧ (i = 0 → (gt w i).1.frm = p ∧ t ≤ (gt w i).2 - (gt w i).1.cut) ∧ (i + 1 < w.length → (gt w (i + 1)).1.frm = (gt w i).1.dst ∧ arrW w i ≤ (gt w (i + 1)).2 - (gt w (i + 1)).1.cut) ∧ (i + 1 = w.length → (gt w i).1.dst = q ∧ arrW w i = u))
  | [], _, _, _, _, _ => fun i hi => by cases hi
  | [(l, a)], p, t, q, u, h => fun i hi => by
    obtain rfl : i = 0 := by simp at hi; omega
    obtain ⟨h1, h2, h3, h4, h5, h6⟩ := h
    exact ⟨h1, h3, fun _ => ⟨h2, h4⟩, fun h => by simp at h, fun _ => ⟨h5, h6⟩⟩
  | (l, a) :: (m, b) :: w, p, t, q, u, h => fun i hi => by
    obtain ⟨h1, h2, h3, h4, h5⟩ := h
    have hr := isWay_at h5
    cases i with
    | zero =>
      have h0 := hr 0 (by simp)
      exact ⟨h1, h3, fun _ => ⟨h2, h4⟩, fun _ => h0.2.2.1 rfl, fun h => by simp at h⟩
    | succ i =>
      have h0 := hr i (by simpa using hi)
      exact ⟨h0.1, h0.2.1, fun h => by omega, fun h => h0.2.2.2.1 (by simpa using h), fun h => h0.2.2.2.2 (by simpa using h)⟩
def lastC (w : List (Leg × Int)) (i : Nat) : Int := (gt w (i + 1)).2 - (gt w (i + 1)).1.cut
def timeC (ds : List Int) (w : List (Leg × Int)) (i : Nat) : Int :=
  if i + 1 < w.length ∧ 0 < ds.length ∧ arrW w i < lastC w i then min (arrW w i + gt ds (i % ds.length)) (lastC w i) else arrW w i
def evC (ds : List Int) (w : List (Leg × Int)) (i : Nat) : Ev := seenE (gt w i).1.dst (timeC ds w i)
def cleanN (p ready : Int) (ds : List Int) (w : List (Leg × Int)) (n : Nat) : List Ev := seenE p ready :: (List.range n).map (evC ds w)
theorem cleanN_len {p ready : Int} {ds : List Int} {w : List (Leg × Int)} {n : Nat} : (cleanN p ready ds w n).length = n + 1 := by simp [cleanN]
theorem cleanN_succ {p ready : Int} {ds : List Int} {w : List (Leg × Int)} {n : Nat} : cleanN p ready ds w (n + 1) = cleanN p ready ds w n ++ [evC ds w n] := by
  simp [cleanN, List.range_succ]
theorem cleanN_1 {p ready : Int} {ds : List Int} {w : List (Leg × Int)} {n i : Nat} (h : i < n) : gt (cleanN p ready ds w n) (i + 1) = evC ds w i := by
  rw [cleanN, gt_cons_succ, gt_lt (by simpa using h)]; simp
theorem timeC_bnd {ds : List Int} {w : List (Leg × Int)} {i : Nat} (hd : ∀ x ∈ ds, 0 ≤ x) (hl : i + 1 < w.length → arrW w i ≤ lastC w i) : arrW w i ≤ timeC ds w i ∧ (i + 1 < w.length → timeC ds w i ≤ lastC w i) := by
  unfold timeC
  split
  · rename_i h
    have := hd _ (gt_mem (l := ds) (i := i % ds.length) (Nat.mod_lt _ h.2.1))
    omega
  · exact ⟨Int.le_refl _, hl⟩
def OneOk (e : Ev) : Prop := FineE e ∧ 0 ≤ e.time ∧ e.time ≤ maxTime ∧ e.item = 7
def Sorted (es : List Ev) : Prop := ∀ i, i + 1 < es.length → (gt es i).time ≤ (gt es (i + 1)).time
theorem evs_of {es : List Ev} (h1 : ∀ e ∈ es, OneOk e) (h2 : Sorted es) : EvsOk es := fun i hi => by
  have ho := h1 _ (gt_mem hi)
  refine ⟨ho.1, ho.2.1, ho.2.2.1, fun h0 => ⟨?_, ?_⟩⟩
  · rw [ho.2.2.2, (h1 _ (gt_mem (l := es) (i := 0) (by omega))).2.2.2]
  · have := h2 (i - 1) (by omega)
    rw [Nat.sub_add_cancel h0] at this
    exact this
section
variable {P : List Int} {L : List Leg} {p q ready v : Int} {w : List (Leg × Int)} {ds : List Int}
theorem way_times (hF : ∀ l ∈ L, Fine l) (hw : IsWay L p ready w q v) (hr : 0 ≤ ready) (hd : ∀ x ∈ ds, 0 ≤ x) : ∀ i, i < w.length → ready ≤ arrW w i ∧ arrW w i ≤ timeC ds w i ∧ (i + 1 < w.length → timeC ds w i ≤ lastC w i ∧ lastC w i ≤ arrW w (i + 1)) ∧ timeC ds w i ≤ v
  | i, hi => by
    have ha := isWay_at hw
    have step : ∀ k, k < w.length → ready ≤ arrW w k := fun k => by
      induction k with
      | zero =>
        intro hk
        have h := ha 0 hk
        have f := hF _ h.1
        have := (h.2.2.1 rfl).2
        unfold arrW; unfold Fine at f; omega
      | succ k ih =>
        intro hk
        have h0 := ih (by omega)
        have h := ha k (by omega)
        have f := hF _ (ha (k + 1) hk).1
        have := (h.2.2.2.1 hk).2
        unfold arrW at *; unfold Fine at f; omega
    have hl : ∀ k, k + 1 < w.length → arrW w k ≤ lastC w k ∧ lastC w k ≤ arrW w (k + 1) := fun k hk => by
      have h := ha k (by omega)
      have f := hF _ (ha (k + 1) hk).1
      have := (h.2.2.2.1 hk).2
      unfold arrW lastC at *; unfold Fine at f; omega
    have up : ∀ m k, k + m + 1 = w.length → arrW w k ≤ v := fun m => by
      induction m with
      | zero => intro k hk; exact Int.le_of_eq ((ha k (by omega)).2.2.2.2 (by omega)).2
      | succ m ih => intro k hk; have := hl k (by omega); have := ih (k + 1) (by omega); omega
    have tb := timeC_bnd (ds := ds) (w := w) (i := i) hd fun h => (hl i h).1
    refine ⟨step i hi, tb.1, fun h => ⟨tb.2 h, (hl i h).2⟩, ?_⟩
    by_cases h : i + 1 < w.length
    · have h1 := tb.2 h
      have h2 := (hl i h).2
      have h3 := up (w.length - (i + 2)) (i + 1) (by omega)
      omega
    · have h1 := up 0 i (by omega)
      unfold timeC
      rw [if_neg (fun hh => h hh.1)]
      exact h1
variable (hv : validN P L = 0) (hp : p ∈ P) (hw : IsWay L p ready w q v) (hr : 0 ≤ ready) (hv2 : v ≤ ready + 86400) (hmax : v ≤ maxTime) (hd : ∀ x ∈ ds, 0 ≤ x)
include hv hp hw hr hv2 hmax hd
omit hp in
theorem clean_step {i : Nat} (hi : i < w.length) : priceN P L (gt (cleanN p ready ds w w.length) i) (gt (cleanN p ready ds w w.length) (i + 1)) = 0 := by
  have hn := valid_net hv
  have ha := isWay_at hw
  have hi' := ha i hi
  have ht := way_times hn.fine hw hr hd i hi
  rw [cleanN_1 hi]
  obtain ⟨x, t, he, hx, ht0, htl⟩ : ∃ x t, gt (cleanN p ready ds w w.length) i = seenE x t ∧ (gt w i).1.frm = x ∧ ready ≤ t ∧ t ≤ (gt w i).2 - (gt w i).1.cut := by
    cases i with
    | zero => exact ⟨p, ready, rfl, (hi'.2.2.1 rfl).1, Int.le_refl _, (hi'.2.2.1 rfl).2⟩
    | succ k =>
      have hk := ha k (by omega)
      have htk := way_times hn.fine hw hr hd k (by omega)
      rw [cleanN_1 (by omega)]
      exact ⟨_, _, rfl, (hk.2.2.2.1 hi).1, by omega, (htk.2.2.1 hi).1⟩
  rw [he]
  have hdP : (gt w i).1.dst ∈ P := hn.dst _ hi'.1
  have hxP : x ∈ P := hx ▸ hn.frm _ hi'.1
  have f := hn.fine _ hi'.1
  have hta : t ≤ arrW w i := by unfold arrW; unfold Fine at f; omega
  have herr : errA P L x x t = 0 := by
    unfold errA
    rw [if_neg (by rw [hv]; simp), if_pos ⟨hxP, hxP, by omega, by omega⟩]
  have hA := arrV_is (t := t) hn hxP hdP (by omega)
  have hway : Go.Net.Way L 1 x t (gt w i).1.dst (arrW w i) := .cons hi'.1 hx hi'.2.1 htl (.nil _ _)
  have hle : arrV P L x t (gt w i).1.dst ≤ arrW w i := hA.le ⟨⟨1, hway⟩, by omega⟩
  unfold priceN evC
  rw [if_neg (by show ¬ (2 : Int) = 4; decide)]
  show (if x = (gt w i).1.dst then (0 : Int) else if (gt w i).1.dst ∉ P then 80 else if errA P L x x t ≠ 0 then 80 else if arrV P L x t (gt w i).1.dst < 0 then 80 else min (max (arrV P L x t (gt w i).1.dst - timeC ds w i) 0) 60) = 0
  split
  · rfl
  · have h0 := hA.nonneg hn.fine (by omega) hway (by omega)
    first | rw [if_neg (by simpa using hdP), if_neg (by simpa using herr), if_neg (by omega)] | rw [if_neg (by simpa using herr), if_neg (by omega)]
    omega
theorem clean_one : ∀ e ∈ cleanN p ready ds w w.length, OneOk e := fun e he => by
  have hn := valid_net hv
  have mt : maxTime = 1051898399 := rfl
  have hP := (validN_0 hv).2.2.1
  have inP : ∀ a ∈ P, 1 ≤ a ∧ a ≤ 999999 := fun a ha => by
    obtain ⟨i, hi, rfl⟩ := List.mem_iff_getElem.1 ha
    have := hP i hi
    unfold pOk at this
    rw [gt_lt hi] at this
    exact ⟨this.1, this.2.1⟩
  rcases List.mem_cons.1 he with rfl | he
  · have := hw.later hn.fine
    exact ⟨fine_seen (inP _ hp).1 (inP _ hp).2 hr (by omega), hr, by show ready ≤ _; omega, rfl⟩
  · obtain ⟨i, hi, rfl⟩ := List.mem_map.1 he
    have hi := List.mem_range.1 hi
    have ht := way_times hn.fine hw hr hd i hi
    have hdP := inP _ (hn.dst _ (isWay_at hw i hi).1)
    exact ⟨fine_seen hdP.1 hdP.2 (by omega) (by omega), by show 0 ≤ timeC ds w i; omega, by show timeC ds w i ≤ _; omega, rfl⟩
omit hp hv2 hmax in
theorem clean_sorted : Sorted (cleanN p ready ds w w.length) := fun i hi => by
  have hn := valid_net hv
  rw [cleanN_len] at hi
  have ht := way_times hn.fine hw hr hd i (by omega)
  rw [cleanN_1 (by omega)]
  cases i with
  | zero => show ready ≤ timeC ds w 0; omega
  | succ k =>
    have htk := way_times hn.fine hw hr hd k (by omega)
    rw [cleanN_1 (by omega)]
    have := htk.2.2.1 (by omega)
    show timeC ds w k ≤ timeC ds w (k + 1)
    omega
end
theorem nodup_sub {m : List Int} : ∀ {l : List Int}, l.Nodup → (∀ x ∈ l, x ∈ m) → l.length ≤ m.length := by
  intro l
  induction l generalizing m with
  | nil => intro _ _; exact Nat.zero_le _
  | cons a l ih =>
    intro hn hs
    rw [List.nodup_cons] at hn
    have h1 := hs a (by simp)
    have h2 := ih (m := m.erase a) hn.2 fun x hx => (List.mem_erase_of_ne (fun e => hn.1 (by rw [← e]; exact hx))).2 (hs x (by simp [hx]))
    rw [List.length_erase_of_mem h1] at h2
    have := List.length_pos_of_mem h1
    simp only [List.length_cons]
    omega
theorem best_few {P : List Int} {L : List Leg} {p t q v : Int} {w : List (Leg × Int)} (hn : NetOk 50 P L (posN P)) (hp : p ∈ P) (h : BestW L p t q v w) : w.length < P.length := by
  have := nodup_sub (m := P) (h.way.nodup hn.fine h.few) fun x hx => by
    rcases List.mem_cons.1 hx with rfl | hx
    · exact hp
    · obtain ⟨y, hy, rfl⟩ := List.mem_map.1 hx
      exact hn.dst _ (h.way.mem y hy)
  simp at this
  omega
section
variable {P : List Int} {L : List Leg} {es : List Ev}
def allK (n : Nat) : List Int := (List.range n).map Int.ofNat
theorem allK_len {n : Nat} : (allK n).length = n := by simp [allK]
theorem allK_gt {n i : Nat} (h : i < n) : gt (allK n) i = (i : Int) := by rw [gt_lt (by simpa [allK] using h)]; simp [allK]
theorem allK_ok {n : Nat} : KsOk n (allK n) := ⟨fun h => by rwa [allK_len] at h, fun i hi => by
  rw [allK_len] at hi
  unfold ascOk
  rw [allK_gt hi]
  refine ⟨by omega, by omega, fun h => ?_⟩
  rw [allK_gt (by omega)]
  omega⟩
theorem sumN_zero : ∀ (l : List (Int × Int × Int)), (∀ x ∈ l, x.2.2 = 0) → sumN l = 0
  | [], _ => rfl
  | x :: l, h => by rw [sumN, h x (by simp), sumN_zero l fun y hy => h y (by simp [hy])]; rfl
theorem all_free (h : ∀ i, i + 1 < es.length → priceN P L (gt es i) (gt es (i + 1)) = 0) : costN P L es (allK es.length) = 0 := by
  unfold costN
  rw [allK_len, sumN_zero]
  · omega
  · intro x hx
    unfold stepsN at hx
    obtain ⟨i, hi, rfl⟩ := List.mem_map.1 hx
    have hi := List.mem_range.1 hi
    rw [allK_len] at hi
    unfold stepN
    rw [allK_gt (by omega), allK_gt (by omega)]
    exact h i (by omega)
theorem best_free (h : ∀ i, i + 1 < es.length → priceN P L (gt es i) (gt es (i + 1)) = 0) : bestC P L es = 0 ∧ (bestN P L es).length = es.length := by
  have h0 := all_free h
  have h1 := bestC_nonneg (P := P) (L := L) (es := es)
  have h2 := asc_len (bestN_ok (P := P) (L := L) (es := es)).2
  rcases best_all (P := P) (L := L) (allK_ok (n := es.length)) with hb | ⟨hb, hc | ⟨hc, _⟩⟩
  · rw [h0] at hb; exact absurd hb (by unfold bestC at h1; omega)
  · rw [allK_len] at hc; rw [h0] at hb; exact ⟨hb, by omega⟩
  · rw [allK_len] at hc; rw [h0] at hb; exact ⟨hb, by omega⟩
def Cheap (P : List Int) (L : List Leg) (es : List Ev) (c : Int) : Prop := ∃ ks, KsOk es.length ks ∧ ks ≠ [] ∧ costN P L es ks ≤ c
def putE (es : List Ev) (k : Nat) (x : Ev) : List Ev := es.take k ++ x :: es.drop k
theorem putE_len {k : Nat} {x : Ev} (h : k ≤ es.length) : (putE es k x).length = es.length + 1 := by simp [putE]; omega
theorem putE_lt {k i : Nat} {x : Ev} (hk : k ≤ es.length) (h : i < k) : gt (putE es k x) i = gt es i := by
  unfold putE
  rw [gt_append_left (by rw [List.length_take]; omega), gt_take h]
theorem putE_at {k : Nat} {x : Ev} (hk : k ≤ es.length) : gt (putE es k x) k = x := by
  have := gt_append_len (l := es.take k) (r := x :: es.drop k) (i := 0)
  rw [List.length_take, Nat.min_eq_left hk] at this
  exact this
theorem putE_gt {k i : Nat} {x : Ev} (hk : k ≤ es.length) (h : k ≤ i) : gt (putE es k x) (i + 1) = gt es i := by
  have := gt_append_len (l := es.take k) (r := x :: es.drop k) (i := i - k + 1)
  rw [List.length_take, Nat.min_eq_left hk, show k + (i - k + 1) = i + 1 by omega, gt_cons_succ] at this
  unfold putE
  rw [this]
  unfold gt
  rw [List.getD_eq_getElem?_getD, List.getD_eq_getElem?_getD, List.getElem?_drop, show k + (i - k) = i by omega]
def upI (k : Nat) (j : Int) : Int := if j < k then j else j + 1
theorem putE_up {k : Nat} {j : Int} {x : Ev} (hk : k ≤ es.length) (hj : 0 ≤ j) : gt (putE es k x) (upI k j).toNat = gt es j.toNat := by
  unfold upI
  split
  · exact putE_lt hk (by omega)
  · rw [show (j + 1).toNat = j.toNat + 1 by omega]
    exact putE_gt hk (by omega)
theorem gt_map {α β : Type} [Inhabited α] [Inhabited β] {f : α → β} {l : List α} {i : Nat} (h : i < l.length) : gt (l.map f) i = f (gt l i) := by
  rw [gt_lt (by simpa using h), gt_lt h]; simp
theorem Cheap.put {c : Int} {k : Nat} {x : Ev} (hk : k ≤ es.length) (h : Cheap P L es c) : Cheap P L (putE es k x) (c + 30) := by
  obtain ⟨ks, h1, h2, h3⟩ := h
  have hm := h1.mem
  have hlen : (ks.map (upI k)).length = ks.length := by simp
  refine ⟨ks.map (upI k), ⟨fun h => ?_, fun i hi => ?_⟩, by simpa using h2, ?_⟩
  · rw [hlen] at h; exact absurd (List.length_eq_zero_iff.1 h) h2
  · rw [hlen] at hi
    have ho := h1.2 i hi
    unfold ascOk at ho ⊢
    rw [gt_map hi, putE_len hk]
    refine ⟨?_, ?_, fun h0 => ?_⟩
    · unfold upI; split <;> omega
    · unfold upI; split <;> omega
    · rw [gt_map (by omega)]
      have := ho.2.2 h0
      unfold upI; split <;> split <;> omega
  · have e : stepsN P L (putE es k x) (ks.map (upI k)) = (stepsN P L es ks).map fun s => (upI k s.1, upI k s.2.1, s.2.2) := by
      unfold stepsN
      rw [List.map_map, hlen]
      apply List.map_congr_left
      intro i hi
      have hi := List.mem_range.1 hi
      show stepN P L (putE es k x) (ks.map (upI k)) i = (upI k (stepN P L es ks i).1, upI k (stepN P L es ks i).2.1, (stepN P L es ks i).2.2)
      unfold stepN
      rw [gt_map (by omega), gt_map (by omega), putE_up hk (hm _ (gt_mem (by omega))).1, putE_up hk (hm _ (gt_mem (by omega))).1]
    have es' : sumN ((stepsN P L es ks).map fun s => (upI k s.1, upI k s.2.1, s.2.2)) = sumN (stepsN P L es ks) := by
      generalize stepsN P L es ks = l
      induction l with
      | nil => rfl
      | cons a l ih => rw [List.map_cons, sumN, sumN, ih]
    unfold costN at h3 ⊢
    rw [e, es', putE_len hk, hlen]
    omega
theorem Cheap.best {c : Int} (h : Cheap P L es c) : bestC P L es ≤ c := by
  obtain ⟨ks, h1, _, h3⟩ := h
  have := bestC_le (P := P) (L := L) h1
  omega
theorem cheap_free (hn : 0 < es.length) (h : ∀ i, i + 1 < es.length → priceN P L (gt es i) (gt es (i + 1)) = 0) : Cheap P L es 0 :=
  ⟨allK es.length, allK_ok, fun e => by have := allK_len (n := es.length); rw [e] at this; simp at this; omega, Int.le_of_eq (all_free h)⟩
def posI (es : List Ev) (x : Ev) : Nat → Nat
  | 0 => 0
  | n + 1 => if x.time < (gt es n).time then posI es x n else n + 1
theorem posI_le {x : Ev} : ∀ n, posI es x n ≤ n
  | 0 => Nat.le_refl _
  | n + 1 => by rw [posI]; split; have := posI_le (x := x) n; omega; omega
theorem posI_low {x : Ev} : ∀ n, 0 < posI es x n → (gt es (posI es x n - 1)).time ≤ x.time
  | 0, h => by cases h
  | n + 1, h => by
    rw [posI] at h ⊢
    split
    · rename_i hh; rw [if_pos hh] at h; exact posI_low n h
    · rw [Nat.add_sub_cancel]; omega
theorem posI_high {x : Ev} : ∀ n j, posI es x n ≤ j → j < n → x.time < (gt es j).time
  | 0, _, _, h => by cases h
  | n + 1, j, h, hj => by
    rw [posI] at h
    split at h
    · rename_i hh
      rcases Nat.lt_or_ge j n with h1 | h1
      · exact posI_high n j h h1
      · obtain rfl : j = n := by omega
        exact hh
    · omega
def insE (es : List Ev) (x : Ev) : List Ev := putE es (posI es x es.length) x
theorem insE_len {x : Ev} : (insE es x).length = es.length + 1 := putE_len (posI_le _)
theorem insE_sorted {x : Ev} (h : Sorted es) : Sorted (insE es x) := fun i hi => by
  rw [insE_len] at hi
  have hk := posI_le (es := es) (x := x) es.length
  have hlow := posI_low (es := es) (x := x) es.length
  have hhigh := posI_high (es := es) (x := x) es.length
  unfold insE
  generalize posI es x es.length = k at hk hlow hhigh ⊢
  rcases Nat.lt_trichotomy (i + 1) k with h1 | h1 | h1
  · rw [putE_lt hk (by omega), putE_lt hk h1]
    exact h i (by omega)
  · subst h1
    rw [putE_at hk, putE_lt hk (by omega)]
    have := hlow (by omega)
    rwa [Nat.add_sub_cancel] at this
  · by_cases h2 : i = k
    · subst h2
      rw [putE_at hk, putE_gt hk (Nat.le_refl _)]
      exact Int.le_of_lt (hhigh i (Nat.le_refl _) (by omega))
    · obtain ⟨j, rfl⟩ : ∃ j, i = j + 1 := ⟨i - 1, by omega⟩
      rw [putE_gt hk (by omega), putE_gt hk (by omega)]
      exact h j (by omega)
theorem insE_one {x : Ev} (h : ∀ e ∈ es, OneOk e) (hx : OneOk x) : ∀ e ∈ insE es x, OneOk e := fun e he => by
  unfold insE putE at he
  rcases List.mem_append.1 he with he | he
  · exact h e (List.mem_of_mem_take he)
  · rcases List.mem_cons.1 he with rfl | he
    · exact hx
    · exact h e (List.mem_of_mem_drop he)
end
theorem fold_len {xs : List Ev} : ∀ {es : List Ev}, (xs.foldl insE es).length = es.length + xs.length := by
  induction xs with
  | nil => intro es; rfl
  | cons x xs ih => intro es; rw [List.foldl_cons, ih, insE_len]; simp; omega
theorem seen_one {ls : List Lk} (hb : ∀ x ∈ ls, ByK x) {i : Nat} (hi : i < ls.length) (h40 : i < 40) : OneOk (evN ls i) := by
  have := seenN_right hb (m := i + 1) (by omega) (by omega) i (by rw [seenN_len]; omega)
  unfold evOk at this
  rw [seenN_get (by omega)] at this
  exact ⟨this.1, this.2.1, this.2.2.1, rfl⟩
theorem strays_ok {P : List Int} {L : List Leg} {ls : List Lk} (hb : ∀ x ∈ ls, ByK x) {es : List Ev} : ∀ {m : Nat}, m ≤ ls.length → m ≤ 40 → (∀ e ∈ es, OneOk e) → Sorted es → Cheap P L es 0 →
    (∀ e ∈ (seenN ls m).foldl insE es, OneOk e) ∧ Sorted ((seenN ls m).foldl insE es) ∧ Cheap P L ((seenN ls m).foldl insE es) (30 * (m : Int))
  | 0, _, _, h1, h2, h3 => ⟨h1, h2, h3⟩
  | m + 1, hm, h40, h1, h2, h3 => by
    obtain ⟨a, b, c⟩ := strays_ok hb (m := m) (by omega) (by omega) h1 h2 h3
    have e : (seenN ls (m + 1)).foldl insE es = insE ((seenN ls m).foldl insE es) (evN ls m) := by
      have : seenN ls (m + 1) = seenN ls m ++ [evN ls m] := by unfold seenN; rw [List.range_succ, List.map_append, List.map_singleton]
      rw [this, List.foldl_append]; rfl
    rw [e]
    refine ⟨insE_one a (seen_one hb (by omega) (by omega)), insE_sorted b, ?_⟩
    have := c.put (x := evN ls m) (posI_le (es := (seenN ls m).foldl insE es) (x := evN ls m) ((seenN ls m).foldl insE es).length)
    rw [show 30 * ((m + 1 : Nat) : Int) = 30 * (m : Int) + 30 by omega]
    exact this
end Go.Proofs.Ytcmhnincbkbncaa.Fn

namespace Go.Proofs.Ytcmhnincbkbncaa.Fn
open Go.AM Go.AM.Sym Go.Sort
set_option maxRecDepth 100000
set_option linter.unusedVariables false
set_option linter.unusedSimpArgs false
set_option maxHeartbeats 4000000
theorem runs [OB] {g : FuncId} {af : AFunc} {lim : Nat} {as : List Value} {H H' : Heap} {v : Value} {Q : Value → Heap → Prop} (h : g≠21∧g≠38) (ht : tr g = some af) (hp : pf g = false) (hr : Ret E af lim [.code af.body] (frame0 as) H fun v' H1 => v' = v ∧ H1 = H') : CallR E false lim g as H Q = Q v H' := by
  refine CallR.eq ?_
  rw [CallR_run (E := E) (by simp [E, orc, h]) ht hp rfl]
  exact hr
def ltC {α : Type} (c : α → α → Int) (x y : α) : Bool := decide (c x y < 0)
theorem ins_ok [OB] {G X : Heap} {B lim cap n : Nat} {p : Option Addr} {c : Go.Net.Leg → Go.Net.Leg → Int} {cl : FuncId} {cs : List Value} {Q : Value → Heap → Prop} (hp : p = some ⟨B, 0, none⟩) (hB : B < G.length) (hl : lim ≤ B) (hn2 : n < 2 ^ 61) (hc : ∀ (mp : Bool) (lim : Nat) (x y : Go.Net.Leg) (H : Heap) (Q : Value → Heap → Prop), CallR E mp lim cl (.agg (encL x).toArray :: .agg (encL y).toArray :: cs) H Q = Q (.int .i64 (c x y)) H) {d : Array Go.Net.Leg} {a b : Nat} (hd : d.size = n) (hb : b ≤ n) (hab : a ≤ b) :
    CallR E false lim 125 [.slice p n cap, .int .i64 (a : Int), .int .i64 (b : Int), .func (.func cl) #[] cs.toArray] (DH encL G B d ++ X) Q = Q (.tuple #[]) (DH encL G B (insertionSort (ltC c) d a b) ++ X) := by
  refine runs (by decide) e125 rfl ?_
  rw [b125, c125]
  have hw0 : IntKind.i64.wrap ((a : Int) + 1) = ((a + 1 : Nat) : Int) := wrap_nat (by omega)
  simp only [n125, r125, hw0, SB, Nat.reduceLT, callee, aOp, ne_eq, Nat.reduceEqDiff, aBin, aUn, if_true, if_false, reduceCtorEq, frame0, place, notTuple, Nat.reduceAdd, Nat.reduceLeDiff, resVal, dite_true, dite_false, Int.reduceEq, Int.reduceLT, Int.reduceLE]
  refine Ret_rounds (S := Nat × Array Go.Net.Leg) (fun s => b + 1 - s.1) (fun s fr H => a ≤ s.1 ∧ s.1 ≤ b + 1 ∧ fr 0 = .slice p n cap ∧ fr 1 = .int .i64 (a : Int) ∧ fr 2 = .int .i64 (b : Int) ∧ fr 3 = .func (.func cl) #[] cs.toArray ∧ fr 8 = .int .i64 (s.1 : Int) ∧
    H = DH encL G B s.2 ++ X ∧ s.2.size = n ∧ insertionSort (ltC c) d a b = insOuter (ltC c) a b s.1 s.2) (a + 1, d) ⟨by simp, by simp; omega, (by simp only [FB, Nat.reduceEqDiff]), (by simp only [FB, Nat.reduceEqDiff]), (by simp only [FB, Nat.reduceEqDiff]), (by simp only [FB, Nat.reduceEqDiff]), (by simp only [FB, Nat.reduceEqDiff]), rfl, hd, rfl⟩ ?_
  rintro ⟨i, d1⟩ fr H ⟨h1, h2, g0, g1, g2, g3, g8, rfl, hd1, he⟩ hN
  simp only at h1 h2 g8 hd1 he
  rw [Ret_code l125_2.eq_1]
  unfold insOuter at he
  by_cases hib : i < b
  · rw [if_pos hib] at he
    simp only [n125, r125, g0, g1, g2, g3, g8, hib, SB, Nat.reduceLT, callee, aOp, ne_eq, Nat.reduceEqDiff, aBin, aUn, if_true, if_false, reduceCtorEq, frame0, place, notTuple, Nat.reduceAdd, Nat.reduceLeDiff, resVal, dite_true, dite_false, Int.reduceEq, Int.reduceLT, Int.reduceLE]
    refine Ret_rounds (S := Nat × Array Go.Net.Leg) (fun s => s.1) (fun s fr H => s.1 ≤ i ∧ fr 0 = .slice p n cap ∧ fr 1 = .int .i64 (a : Int) ∧ fr 2 = .int .i64 (b : Int) ∧ fr 3 = .func (.func cl) #[] cs.toArray ∧ fr 8 = .int .i64 (i : Int) ∧ fr 9 = .int .i64 (s.1 : Int) ∧
      H = DH encL G B s.2 ++ X ∧ s.2.size = n ∧ insInner (ltC c) a i d1 = insInner (ltC c) a s.1 s.2) (i, d1) ⟨Nat.le_refl _, (by simp only [g0, FB, Nat.reduceEqDiff]), (by simp only [g1, FB, Nat.reduceEqDiff]), (by simp only [g2, FB, Nat.reduceEqDiff]), (by simp only [g3, FB, Nat.reduceEqDiff]), (by simp only [g8, FB, Nat.reduceEqDiff]), (by simp only [FB, Nat.reduceEqDiff]), by simp, hd1, rfl⟩ ?_
    rintro ⟨j, d2⟩ fr2 H2 ⟨k1, q0, q1, q2, q3, q8, q9, rfl, hd2, hi⟩ hM
    simp only at k1 q9 hd2 hi
    rw [Ret_code l125_1.eq_1]
    have hwi : IntKind.i64.wrap ((i : Int) + 1) = ((i + 1 : Nat) : Int) := wrap_nat (by omega)
    by_cases haj : a < j
    · obtain ⟨j, rfl⟩ : ∃ j', j = j' + 1 := ⟨j - 1, by omega⟩
      have hwj : IntKind.i64.wrap (((j + 1 : Nat) : Int) - 1) = (j : Int) := wrap_pred (n := j + 1) (by omega) (by omega)
      have ld := fun (X : Heap) (d : Array Go.Net.Leg) (hd : d.size = n) => DH_ld (X := X) (d := d) (i := j) hp hB encL_len (by omega)
      have ld1 := fun (X : Heap) (d : Array Go.Net.Leg) (hd : d.size = n) => DH_ld (X := X) (d := d) (i := j + 1) hp hB encL_len (by omega)
      have st := fun (X : Heap) (d : Array Go.Net.Leg) (hd : d.size = n) (y : Go.Net.Leg) => DH_st (X := X) (d := d) (i := j) (y := y) hp hB hl encL_len (by omega)
      have st1 := fun (X : Heap) (d : Array Go.Net.Leg) (hd : d.size = n) (y : Go.Net.Leg) => DH_st (X := X) (d := d) (i := j + 1) (y := y) hp hB hl encL_len (by omega)
      have ix := fun c (k : IntKind) (H : Heap) => DH_idx (e := 8) (i := j) (n := n) (c := c) (k := k) (H := H) hp (by omega)
      have ix1 := fun c (k : IntKind) (H : Heap) => DH_idx (e := 8) (i := j + 1) (n := n) (c := c) (k := k) (H := H) hp (by omega)
      rw [insInner] at hi
      by_cases hlt : ltC c d2[j + 1]! d2[j]! = true
      · have hlt' : c d2[j + 1]! d2[j]! < 0 := by simpa [ltC] using hlt
        simp only [n125, r125, q0, q1, q2, q3, q8, q9, haj, hwj, ld, ld1, st, st1, ix, ix1, hd2, hc, hlt', Array.size_setIfInBounds, encL_len, SB, Nat.reduceLT, callee, aOp, ne_eq, Nat.reduceEqDiff, aBin, aUn, if_true, if_false, reduceCtorEq, frame0, place, notTuple, Nat.reduceAdd, Nat.reduceLeDiff, resVal, dite_true, dite_false, Int.reduceEq, Int.reduceLT, Int.reduceLE]
        refine hM (j, swp d2 (j + 1) j) _ _ ⟨by simp only; omega, (by simp only [q0, FB, Nat.reduceEqDiff]), (by simp only [q1, FB, Nat.reduceEqDiff]), (by simp only [q2, FB, Nat.reduceEqDiff]), (by simp only [q3, FB, Nat.reduceEqDiff]), (by simp only [q8, FB, Nat.reduceEqDiff]), (by simp only [FB, Nat.reduceEqDiff]), by simp [swp], by simp [swp, hd2], ?_⟩ (by simp only; omega)
        rw [hi]; simp [haj, hlt]
      · have hlt' : ¬ c d2[j + 1]! d2[j]! < 0 := by simpa [ltC] using hlt
        simp only [n125, r125, q0, q1, q2, q3, q8, q9, haj, hwj, ld, ld1, st, st1, ix, ix1, hd2, hc, hlt', hwi, SB, Nat.reduceLT, callee, aOp, ne_eq, Nat.reduceEqDiff, aBin, aUn, if_true, if_false, reduceCtorEq, frame0, place, notTuple, Nat.reduceAdd, Nat.reduceLeDiff, resVal, dite_true, dite_false, Int.reduceEq, Int.reduceLT, Int.reduceLE]
        refine hN (i + 1, d2) _ _ ⟨by simp only; omega, by simp only; omega, (by simp only [q0, FB, Nat.reduceEqDiff]), (by simp only [q1, FB, Nat.reduceEqDiff]), (by simp only [q2, FB, Nat.reduceEqDiff]), (by simp only [q3, FB, Nat.reduceEqDiff]), (by simp only [FB, Nat.reduceEqDiff]), by simp, hd2, ?_⟩ (by simp only; omega)
        rw [he, hi]; simp [haj, hlt]
    · have haj' : ¬ (a : Int) < (j : Int) := by omega
      simp only [n125, r125, q0, q1, q2, q3, q8, q9, haj, hwi, SB, Nat.reduceLT, callee, aOp, ne_eq, Nat.reduceEqDiff, aBin, aUn, if_true, if_false, reduceCtorEq, frame0, place, notTuple, Nat.reduceAdd, Nat.reduceLeDiff, resVal, dite_true, dite_false, Int.reduceEq, Int.reduceLT, Int.reduceLE]
      refine hN (i + 1, d2) _ _ ⟨by simp only; omega, by simp only; omega, (by simp only [q0, FB, Nat.reduceEqDiff]), (by simp only [q1, FB, Nat.reduceEqDiff]), (by simp only [q2, FB, Nat.reduceEqDiff]), (by simp only [q3, FB, Nat.reduceEqDiff]), (by simp only [FB, Nat.reduceEqDiff]), by simp, hd2, ?_⟩ (by simp only; omega)
      rw [he, hi]
      cases j with
      | zero => rfl
      | succ j => rw [insInner]; simp [show ¬ j + 1 > a by omega]
  · rw [if_neg hib] at he
    simp only [n125, r125, g0, g1, g2, g3, g8, hib, he, SB, Nat.reduceLT, callee, aOp, ne_eq, Nat.reduceEqDiff, aBin, aUn, if_true, if_false, reduceCtorEq, frame0, place, notTuple, Nat.reduceAdd, Nat.reduceLeDiff, resVal, dite_true, dite_false, Int.reduceEq, Int.reduceLT, Int.reduceLE]
theorem rev_ok [OB] {G X : Heap} {B lim cap n : Nat} {p : Option Addr} {c : Go.Net.Leg → Go.Net.Leg → Int} {cl : FuncId} {cs : List Value} {Q : Value → Heap → Prop} (hp : p = some ⟨B, 0, none⟩) (hB : B < G.length) (hl : lim ≤ B) (hn2 : n < 2 ^ 61) (hc : ∀ (mp : Bool) (lim : Nat) (x y : Go.Net.Leg) (H : Heap) (Q : Value → Heap → Prop), CallR E mp lim cl (.agg (encL x).toArray :: .agg (encL y).toArray :: cs) H Q = Q (.int .i64 (c x y)) H) {d : Array Go.Net.Leg} {a b : Nat} (hd : d.size = n) (hb : b ≤ n) (hab : a < b) :
    CallR E false lim 129 [.slice p n cap, .int .i64 (a : Int), .int .i64 (b : Int), .func (.func cl) #[] cs.toArray] (DH encL G B d ++ X) Q = Q (.tuple #[]) (DH encL G B (reverseRange d a b) ++ X) := by
  refine runs (by decide) e129 rfl ?_
  rw [b129, c129]
  have hw0 : IntKind.i64.wrap ((b : Int) - 1) = ((b - 1 : Nat) : Int) := wrap_pred (by omega) (by omega)
  simp only [n129, r129, hw0, SB, Nat.reduceLT, callee, aOp, ne_eq, Nat.reduceEqDiff, aBin, aUn, if_true, if_false, reduceCtorEq, frame0, place, notTuple, Nat.reduceAdd, Nat.reduceLeDiff, resVal, dite_true, dite_false, Int.reduceEq, Int.reduceLT, Int.reduceLE]
  have ld := fun (i : Nat) (X : Heap) (d : Array Go.Net.Leg) (hd : d.size = n) (hi : i < n) => DH_ld (X := X) (d := d) (i := i) hp hB encL_len (by omega); have st := fun (i : Nat) (X : Heap) (d : Array Go.Net.Leg) (hd : d.size = n) (hi : i < n) (y : Go.Net.Leg) => DH_st (X := X) (d := d) (i := i) (y := y) hp hB hl encL_len (by omega); have ix := fun (i : Nat) (hi : i < n) c (k : IntKind) (H : Heap) => DH_idx (e := 8) (i := i) (n := n) (c := c) (k := k) (H := H) hp hi
  refine Ret_rounds (S := (Nat × Nat) × Array Go.Net.Leg) (fun s => s.1.2 + 1 - s.1.1) (fun s fr H => s.1.1 ≤ b ∧ s.1.2 < b ∧ fr 0 = .slice p n cap ∧ fr 8 = .int .i64 (s.1.1 : Int) ∧ fr 9 = .int .i64 (s.1.2 : Int) ∧
    H = DH encL G B s.2 ++ X ∧ s.2.size = n ∧ reverseRange d a b = reverseLoop s.1.1 s.1.2 s.2) ((a, b - 1), d) ⟨by simp; omega, by simp; omega, (by simp only [FB, Nat.reduceEqDiff]), (by simp only [FB, Nat.reduceEqDiff]), (by simp only [FB, Nat.reduceEqDiff]), rfl, hd, rfl⟩ ?_
  rintro ⟨⟨i, j⟩, d1⟩ fr H ⟨h1, h2, g0, g8, g9, rfl, hd1, he⟩ hN
  simp only at h1 h2 g8 g9 hd1 he
  rw [Ret_code l129_1.eq_1]
  unfold reverseLoop at he
  by_cases hij : i < j
  · rw [if_pos hij] at he
    have hw1 : IntKind.i64.wrap ((i : Int) + 1) = ((i + 1 : Nat) : Int) := wrap_nat (by omega)
    have hw2 : IntKind.i64.wrap ((j : Int) - 1) = ((j - 1 : Nat) : Int) := wrap_pred (by omega) (by omega)
    have hi : i < n := by omega
    have hj : j < n := by omega
    simp only [n129, r129, g0, g8, g9, hij, hw1, hw2, ld, st, ix, List.append_nil, Array.size_setIfInBounds, encL_len, hd1, hi, hj, SB, Nat.reduceLT, callee, aOp, ne_eq, Nat.reduceEqDiff, aBin, aUn, if_true, if_false, reduceCtorEq, frame0, place, notTuple, Nat.reduceAdd, Nat.reduceLeDiff, resVal, dite_true, dite_false, Int.reduceEq, Int.reduceLT, Int.reduceLE]
    refine hN ((i + 1, j - 1), swp d1 i j) _ _ ⟨by simp only; omega, by simp only; omega, (by simp only [g0, FB, Nat.reduceEqDiff]), (by simp only [FB, Nat.reduceEqDiff]), (by simp only [FB, Nat.reduceEqDiff]), by simp [swp], by simp [swp, hd1], he⟩ (by simp only; omega)
  · rw [if_neg hij] at he
    simp only [n129, r129, g0, g8, g9, hij, he, SB, Nat.reduceLT, callee, aOp, ne_eq, Nat.reduceEqDiff, aBin, aUn, if_true, if_false, reduceCtorEq, frame0, place, notTuple, Nat.reduceAdd, Nat.reduceLeDiff, resVal, dite_true, dite_false, Int.reduceEq, Int.reduceLT, Int.reduceLE]
theorem sift_ok [OB] {G X : Heap} {B lim cap n : Nat} {p : Option Addr} {c : Go.Net.Leg → Go.Net.Leg → Int} {cl : FuncId} {cs : List Value} {Q : Value → Heap → Prop} (hp : p = some ⟨B, 0, none⟩) (hB : B < G.length) (hl : lim ≤ B) (hn2 : n < 2 ^ 61) (hc : ∀ (mp : Bool) (lim : Nat) (x y : Go.Net.Leg) (H : Heap) (Q : Value → Heap → Prop), CallR E mp lim cl (.agg (encL x).toArray :: .agg (encL y).toArray :: cs) H Q = Q (.int .i64 (c x y)) H) {d : Array Go.Net.Leg} {lo hi first : Nat} (hd : d.size = n) (hb : first + hi ≤ n) (hlo : lo ≤ hi) :
    CallR E false lim 137 [.slice p n cap, .int .i64 (lo : Int), .int .i64 (hi : Int), .int .i64 (first : Int), .func (.func cl) #[] cs.toArray] (DH encL G B d ++ X) Q = Q (.tuple #[]) (DH encL G B (siftDown (ltC c) hi first lo d) ++ X) := by
  refine runs (by decide) e137 rfl ?_
  rw [b137, c137]
  generalize hT : siftDown (ltC c) hi first lo d = T
  simp only [n137, r137, SB, Nat.reduceLT, callee, aOp, ne_eq, Nat.reduceEqDiff, aBin, aUn, if_true, if_false, reduceCtorEq, frame0, place, notTuple, Nat.reduceAdd, Nat.reduceLeDiff, resVal, dite_true, dite_false, Int.reduceEq, Int.reduceLT, Int.reduceLE]
  have ld := fun (i : Nat) (X : Heap) (d : Array Go.Net.Leg) (hd : d.size = n) (hi : i < n) => DH_ld (X := X) (d := d) (i := i) hp hB encL_len (by omega); have st := fun (i : Nat) (X : Heap) (d : Array Go.Net.Leg) (hd : d.size = n) (hi : i < n) (y : Go.Net.Leg) => DH_st (X := X) (d := d) (i := i) (y := y) hp hB hl encL_len (by omega); have ix := fun (i : Nat) (hi : i < n) c (k : IntKind) (H : Heap) => DH_idx (e := 8) (i := i) (n := n) (c := c) (k := k) (H := H) hp hi
  refine Ret_rounds (S := Nat × Array Go.Net.Leg) (fun s => hi - s.1) (fun s fr H => s.1 ≤ hi ∧ fr 0 = .slice p n cap ∧ fr 2 = .int .i64 (hi : Int) ∧ fr 3 = .int .i64 (first : Int) ∧ fr 4 = .func (.func cl) #[] cs.toArray ∧ fr 10 = .int .i64 (s.1 : Int) ∧
    H = DH encL G B s.2 ++ X ∧ s.2.size = n ∧ T = siftDown (ltC c) hi first s.1 s.2) (lo, d) ⟨hlo, (by simp only [FB, Nat.reduceEqDiff]), (by simp only [FB, Nat.reduceEqDiff]), (by simp only [FB, Nat.reduceEqDiff]), (by simp only [FB, Nat.reduceEqDiff]), (by simp only [FB, Nat.reduceEqDiff]), rfl, hd, hT.symm⟩ ?_
  rintro ⟨r, d1⟩ fr H ⟨h1, g0, g2, g3, g4, g10, rfl, hd1, he⟩ hN
  simp only at h1 g10 hd1 he
  rw [Ret_code l137_1.eq_1]
  unfold siftDown at he
  have hw1 : IntKind.i64.wrap (2 * (r : Int)) = ((2 * r : Nat) : Int) := by rw [wrap_id (by omega) (by omega)]; omega
  have hw2 : IntKind.i64.wrap (((2 * r : Nat) : Int) + 1) = ((2 * r + 1 : Nat) : Int) := wrap_nat (by omega)
  have hw3 : IntKind.i64.wrap (((2 * r + 1 : Nat) : Int) + 1) = ((2 * r + 2 : Nat) : Int) := wrap_nat (by omega)
  have hw4 : IntKind.i64.wrap ((first : Int) + ((2 * r + 1 : Nat) : Int)) = ((first + (2 * r + 1) : Nat) : Int) := by rw [wrap_id (by omega) (by omega)]; omega
  have hw5 : IntKind.i64.wrap (((first + (2 * r + 1) : Nat) : Int) + 1) = ((first + (2 * r + 2) : Nat) : Int) := wrap_nat (by omega)
  have hw6 : IntKind.i64.wrap ((first : Int) + ((2 * r + 2 : Nat) : Int)) = ((first + (2 * r + 2) : Nat) : Int) := by rw [wrap_id (by omega) (by omega)]; omega
  have hw7 : IntKind.i64.wrap ((first : Int) + (r : Int)) = ((first + r : Nat) : Int) := by rw [wrap_id (by omega) (by omega)]; omega
  by_cases c1 : 2 * r + 1 ≥ hi
  · rw [dif_pos c1] at he
    have c1' : hi ≤ 2 * r + 1 := c1
    simp only [n137, r137, g0, g2, g3, g4, g10, hw1, hw2, c1', he, SB, Nat.reduceLT, callee, aOp, ne_eq, Nat.reduceEqDiff, aBin, aUn, if_true, if_false, reduceCtorEq, frame0, place, notTuple, Nat.reduceAdd, Nat.reduceLeDiff, resVal, dite_true, dite_false, Int.reduceEq, Int.reduceLT, Int.reduceLE]
  · rw [dif_neg c1] at he
    have c1' : ¬ hi ≤ 2 * r + 1 := c1
    have i1 : first + (2 * r + 1) < n := by omega
    have i2 : first + r < n := by omega
    by_cases c2 : 2 * r + 1 + 1 < hi ∧ c d1[first + (2 * r + 1)]! d1[first + (2 * r + 2)]! < 0
    · obtain ⟨c2, c3⟩ := c2
      have i3 : first + (2 * r + 2) < n := by omega
      have c2' : 2 * r + 2 < hi := by omega
      rw [if_pos (by simp only [Bool.and_eq_true, decide_eq_true_eq, ltC]; exact ⟨c2, by rw [show first + (2 * r + 1) + 1 = first + (2 * r + 2) by omega]; exact c3⟩)] at he
      by_cases c4 : c d1[first + r]! d1[first + (2 * r + 2)]! < 0
      · rw [if_neg (by simp [ltC, c4]), dif_pos c2'] at he
        simp only [n137, r137, g0, g2, g3, g4, g10, hw1, hw2, hw3, hw4, hw5, hw6, hw7, c1', c2', c3, c4, ld, st, ix, List.append_nil, Array.size_setIfInBounds, encL_len, hd1, i1, i2, i3, hc, SB, Nat.reduceLT, callee, aOp, ne_eq, Nat.reduceEqDiff, aBin, aUn, if_true, if_false, reduceCtorEq, frame0, place, notTuple, Nat.reduceAdd, Nat.reduceLeDiff, resVal, dite_true, dite_false, Int.reduceEq, Int.reduceLT, Int.reduceLE]
        refine hN (2 * r + 2, swp d1 (first + r) (first + (2 * r + 2))) _ _ ⟨by simp only; omega, (by simp only [g0, FB, Nat.reduceEqDiff]), (by simp only [g2, FB, Nat.reduceEqDiff]), (by simp only [g3, FB, Nat.reduceEqDiff]), (by simp only [g4, FB, Nat.reduceEqDiff]), (by simp only [FB, Nat.reduceEqDiff]), by simp [swp], by simp [swp, hd1], he⟩ (by simp only; omega)
      · rw [if_pos (by simp [ltC, c4])] at he
        simp only [n137, r137, g0, g2, g3, g4, g10, hw1, hw2, hw3, hw4, hw5, hw6, hw7, c1', c2', c3, c4, ld, st, ix, List.append_nil, Array.size_setIfInBounds, encL_len, hd1, i1, i2, i3, hc, he, SB, Nat.reduceLT, callee, aOp, ne_eq, Nat.reduceEqDiff, aBin, aUn, if_true, if_false, reduceCtorEq, frame0, place, notTuple, Nat.reduceAdd, Nat.reduceLeDiff, resVal, dite_true, dite_false, Int.reduceEq, Int.reduceLT, Int.reduceLE]
    · rw [if_neg (by simp only [Bool.and_eq_true, decide_eq_true_eq, ltC]; rw [show first + (2 * r + 1) + 1 = first + (2 * r + 2) by omega]; exact c2)] at he
      by_cases c4 : c d1[first + r]! d1[first + (2 * r + 1)]! < 0
      · rw [if_neg (by simp [ltC, c4])] at he
        by_cases c5 : 2 * r + 2 < hi
        · have c3 : ¬ c d1[first + (2 * r + 1)]! d1[first + (2 * r + 2)]! < 0 := fun h => c2 ⟨by omega, h⟩
          have i3 : first + (2 * r + 2) < n := by omega
          simp only [n137, r137, g0, g2, g3, g4, g10, hw1, hw2, hw3, hw4, hw5, hw6, hw7, c1', c5, c3, c4, ld, st, ix, List.append_nil, Array.size_setIfInBounds, encL_len, hd1, i1, i2, i3, hc, SB, Nat.reduceLT, callee, aOp, ne_eq, Nat.reduceEqDiff, aBin, aUn, if_true, if_false, reduceCtorEq, frame0, place, notTuple, Nat.reduceAdd, Nat.reduceLeDiff, resVal, dite_true, dite_false, Int.reduceEq, Int.reduceLT, Int.reduceLE]
          refine hN (2 * r + 1, swp d1 (first + r) (first + (2 * r + 1))) _ _ ⟨by simp only; omega, (by simp only [g0, FB, Nat.reduceEqDiff]), (by simp only [g2, FB, Nat.reduceEqDiff]), (by simp only [g3, FB, Nat.reduceEqDiff]), (by simp only [g4, FB, Nat.reduceEqDiff]), (by simp only [FB, Nat.reduceEqDiff]), by simp [swp], by simp [swp, hd1], he⟩ (by simp only; omega)
        · simp only [n137, r137, g0, g2, g3, g4, g10, hw1, hw2, hw3, hw4, hw5, hw6, hw7, c1', c5, c4, ld, st, ix, List.append_nil, Array.size_setIfInBounds, encL_len, hd1, i1, i2, hc, SB, Nat.reduceLT, callee, aOp, ne_eq, Nat.reduceEqDiff, aBin, aUn, if_true, if_false, reduceCtorEq, frame0, place, notTuple, Nat.reduceAdd, Nat.reduceLeDiff, resVal, dite_true, dite_false, Int.reduceEq, Int.reduceLT, Int.reduceLE]
          refine hN (2 * r + 1, swp d1 (first + r) (first + (2 * r + 1))) _ _ ⟨by simp only; omega, (by simp only [g0, FB, Nat.reduceEqDiff]), (by simp only [g2, FB, Nat.reduceEqDiff]), (by simp only [g3, FB, Nat.reduceEqDiff]), (by simp only [g4, FB, Nat.reduceEqDiff]), (by simp only [FB, Nat.reduceEqDiff]), by simp [swp], by simp [swp, hd1], he⟩ (by simp only; omega)
      · rw [if_pos (by simp [ltC, c4])] at he
        by_cases c5 : 2 * r + 2 < hi
        · have c3 : ¬ c d1[first + (2 * r + 1)]! d1[first + (2 * r + 2)]! < 0 := fun h => c2 ⟨by omega, h⟩
          have i3 : first + (2 * r + 2) < n := by omega
          simp only [n137, r137, g0, g2, g3, g4, g10, hw1, hw2, hw3, hw4, hw5, hw6, hw7, c1', c5, c3, c4, ld, st, ix, List.append_nil, Array.size_setIfInBounds, encL_len, hd1, i1, i2, i3, hc, he, SB, Nat.reduceLT, callee, aOp, ne_eq, Nat.reduceEqDiff, aBin, aUn, if_true, if_false, reduceCtorEq, frame0, place, notTuple, Nat.reduceAdd, Nat.reduceLeDiff, resVal, dite_true, dite_false, Int.reduceEq, Int.reduceLT, Int.reduceLE]
        · simp only [n137, r137, g0, g2, g3, g4, g10, hw1, hw2, hw3, hw4, hw5, hw6, hw7, c1', c5, c4, ld, st, ix, List.append_nil, Array.size_setIfInBounds, encL_len, hd1, i1, i2, hc, he, SB, Nat.reduceLT, callee, aOp, ne_eq, Nat.reduceEqDiff, aBin, aUn, if_true, if_false, reduceCtorEq, frame0, place, notTuple, Nat.reduceAdd, Nat.reduceLeDiff, resVal, dite_true, dite_false, Int.reduceEq, Int.reduceLT, Int.reduceLE]
theorem swp_sz {α : Type} [Inhabited α] {d : Array α} {i j : Nat} : (swp d i j).size = d.size := by simp [swp]
theorem siftDown_sz {α : Type} [Inhabited α] {lt : α → α → Bool} {hi first : Nat} : ∀ (m r : Nat) (d : Array α), hi - r ≤ m → (siftDown lt hi first r d).size = d.size
  | 0, r, d, h => by
    rw [siftDown, dif_pos (by omega)]
  | m + 1, r, d, h => by
    rw [siftDown]
    split
    · rfl
    · split
      · split
        · rfl
        · split
          · rw [siftDown_sz m _ _ (by omega), swp_sz]
          · rfl
      · split
        · rfl
        · rw [siftDown_sz m _ _ (by omega), swp_sz]
theorem heap_ok [OB] {G X : Heap} {B lim cap n : Nat} {p : Option Addr} {c : Go.Net.Leg → Go.Net.Leg → Int} {cl : FuncId} {cs : List Value} {Q : Value → Heap → Prop} (hp : p = some ⟨B, 0, none⟩) (hB : B < G.length) (hl : lim ≤ B) (hn2 : n < 2 ^ 61) (hc : ∀ (mp : Bool) (lim : Nat) (x y : Go.Net.Leg) (H : Heap) (Q : Value → Heap → Prop), CallR E mp lim cl (.agg (encL x).toArray :: .agg (encL y).toArray :: cs) H Q = Q (.int .i64 (c x y)) H) {d : Array Go.Net.Leg} {a b : Nat} (hd : d.size = n) (hb : b ≤ n) (hab : a ≤ b) :
    CallR E false lim 126 [.slice p n cap, .int .i64 (a : Int), .int .i64 (b : Int), .func (.func cl) #[] cs.toArray] (DH encL G B d ++ X) Q = Q (.tuple #[]) (DH encL G B (heapSort (ltC c) d a b) ++ X) := by
  refine runs (by decide) e126 rfl ?_
  rw [b126, c126]
  obtain ⟨h, rfl⟩ : ∃ h, b = a + h := ⟨b - a, by omega⟩
  have hw0 : IntKind.i64.wrap (((a + h : Nat) : Int) - (a : Int)) = (h : Int) := by rw [wrap_id (by omega) (by omega)]; omega
  have hw1 : IntKind.i64.wrap ((h : Int) - 1) = (h : Int) - 1 := wrap_id (by omega) (by omega)
  have hw2 : IntKind.i64.wrap (((h : Int) - 1).tdiv 2) = (((h - 1) / 2 + 1 : Nat) : Int) - 1 := by
    rcases Nat.eq_zero_or_pos h with rfl | h0
    · decide
    · rw [Int.tdiv_eq_ediv_of_nonneg (by omega), wrap_id (by omega) (by omega)]; omega
  generalize hT : heapSort (ltC c) d a (a + h) = T
  rw [heapSort, show a + h - a = h by omega] at hT
  have ld := fun (i : Nat) (X : Heap) (d : Array Go.Net.Leg) (hd : d.size = n) (hi : i < n) => DH_ld (X := X) (d := d) (i := i) hp hB encL_len (by omega); have st := fun (i : Nat) (X : Heap) (d : Array Go.Net.Leg) (hd : d.size = n) (hi : i < n) (y : Go.Net.Leg) => DH_st (X := X) (d := d) (i := i) (y := y) hp hB hl encL_len (by omega); have ix := fun (i : Nat) (hi : i < n) c (k : IntKind) (H : Heap) => DH_idx (e := 8) (i := i) (n := n) (c := c) (k := k) (H := H) hp hi
  have hsift := fun (X : Heap) (d : Array Go.Net.Leg) (lo hi : Nat) (hd : d.size = n) (hh : hi ≤ h) (hlo : lo ≤ hi) Q => sift_ok (X := X) (d := d) (lo := lo) (hi := hi) (first := a) (cap := cap) (Q := Q) hp hB hl hn2 hc hd (by omega) hlo
  simp only [n126, r126, hw0, hw1, hw2, SB, Nat.reduceLT, callee, aOp, ne_eq, Nat.reduceEqDiff, aBin, aUn, if_true, if_false, reduceCtorEq, frame0, place, notTuple, Nat.reduceAdd, Nat.reduceLeDiff, resVal, dite_true, dite_false, Int.reduceEq, Int.reduceLT, Int.reduceLE]
  refine Ret_rounds (S := Nat × Array Go.Net.Leg) (fun s => s.1) (fun s fr H => s.1 ≤ h + 1 ∧ (h = 0 → s.1 ≤ 1) ∧ (0 < h → s.1 ≤ h) ∧ fr 0 = .slice p n cap ∧ fr 3 = .func (.func cl) #[] cs.toArray ∧ fr 8 = .int .i64 (a : Int) ∧ fr 9 = .int .i64 0 ∧ fr 10 = .int .i64 (h : Int) ∧ fr 11 = .int .i64 ((s.1 : Int) - 1) ∧
    H = DH encL G B s.2 ++ X ∧ s.2.size = n ∧ T = heapPop (ltC c) a h (heapBuild (ltC c) h a s.1 s.2)) ((h - 1) / 2 + 1, d) ⟨by simp only; omega, by simp only; omega, by simp only; omega, (by simp only [FB, Nat.reduceEqDiff]), (by simp only [FB, Nat.reduceEqDiff]), (by simp only [FB, Nat.reduceEqDiff]), (by simp only [FB, Nat.reduceEqDiff]), (by simp only [FB, Nat.reduceEqDiff]), (by simp only [FB, Nat.reduceEqDiff]), rfl, hd, hT.symm⟩ ?_
  rintro ⟨k, d1⟩ fr H ⟨h1, h2, h3, g0, g3, g8, g9, g10, g11, rfl, hd1, he⟩ hN
  simp only at h1 h2 h3 g11 hd1 he
  rw [Ret_code l126_2.eq_1]
  cases k with
  | succ k =>
    have hk : ((k + 1 : Nat) : Int) - 1 = (k : Int) := by omega
    rw [hk] at g11
    have hw3 : IntKind.i64.wrap ((k : Int) - 1) = (k : Int) - 1 := wrap_id (by omega) (by omega)
    have hk1 : k ≤ h := by omega
    have hk0 : (0 : Int) ≤ (k : Int) := by omega
    simp only [n126, r126, g0, g3, g8, g9, g10, g11, hk0, hw3, hsift, hd1, hk1, SB, Nat.reduceLT, callee, aOp, ne_eq, Nat.reduceEqDiff, aBin, aUn, if_true, if_false, reduceCtorEq, frame0, place, notTuple, Nat.reduceAdd, Nat.reduceLeDiff, resVal, dite_true, dite_false, Int.reduceEq, Int.reduceLT, Int.reduceLE]
    refine hN (k, siftDown (ltC c) h a k d1) _ _ ⟨by simp only; omega, by simp only; omega, by simp only; omega, (by simp only [g0, FB, Nat.reduceEqDiff]), (by simp only [g3, FB, Nat.reduceEqDiff]), (by simp only [g8, FB, Nat.reduceEqDiff]), (by simp only [g9, FB, Nat.reduceEqDiff]), (by simp only [g10, FB, Nat.reduceEqDiff]), (by simp only [FB, Nat.reduceEqDiff]), by simp, by simp only; rw [siftDown_sz _ _ _ (Nat.le_refl _), hd1], he⟩ (by simp only; omega)
  | zero =>
    clear hN
    rw [heapBuild] at he
    simp only [n126, r126, g0, g3, g8, g9, g10, g11, hw1, Int.cast_ofNat_Int, Int.ofNat_eq_natCast, Int.reduceSub, Int.zero_sub, Int.reduceNeg, SB, Nat.reduceLT, callee, aOp, ne_eq, Nat.reduceEqDiff, aBin, aUn, if_true, if_false, reduceCtorEq, frame0, place, notTuple, Nat.reduceAdd, Nat.reduceLeDiff, resVal, dite_true, dite_false, Int.reduceEq, Int.reduceLT, Int.reduceLE]
    refine Ret_rounds (S := Nat × Array Go.Net.Leg) (fun s => s.1) (fun s fr H => s.1 ≤ h ∧ fr 0 = .slice p n cap ∧ fr 3 = .func (.func cl) #[] cs.toArray ∧ fr 8 = .int .i64 (a : Int) ∧ fr 9 = .int .i64 0 ∧ fr 12 = .int .i64 ((s.1 : Int) - 1) ∧
      H = DH encL G B s.2 ++ X ∧ s.2.size = n ∧ T = heapPop (ltC c) a s.1 s.2) (h, d1) ⟨Nat.le_refl _, (by simp only [g0, FB, Nat.reduceEqDiff]), (by simp only [g3, FB, Nat.reduceEqDiff]), (by simp only [g8, FB, Nat.reduceEqDiff]), (by simp only [g9, FB, Nat.reduceEqDiff]), (by simp only [FB, Nat.reduceEqDiff]), by simp, hd1, he⟩ ?_
    rintro ⟨k, d2⟩ fr2 H2 ⟨k1, q0, q3, q8, q9, q12, rfl, hd2, hf⟩ hM
    simp only at k1 q12 hd2 hf
    rw [Ret_code l126_1.eq_1]
    cases k with
    | succ k =>
      have hk : ((k + 1 : Nat) : Int) - 1 = (k : Int) := by omega
      rw [hk] at q12
      have hw3 : IntKind.i64.wrap ((k : Int) - 1) = (k : Int) - 1 := wrap_id (by omega) (by omega)
      have hw4 : IntKind.i64.wrap ((a : Int) + (k : Int)) = ((a + k : Nat) : Int) := by rw [wrap_id (by omega) (by omega)]; omega
      have i1 : a < n := by omega
      have i2 : a + k < n := by omega
      have hk1 : k ≤ h := by omega
      have hk0 : (0 : Int) ≤ (k : Int) := by omega
      have hsift0 := fun (X : Heap) (d : Array Go.Net.Leg) (hi : Nat) (hd : d.size = n) (hh : hi ≤ h) Q => hsift X d 0 hi hd hh (Nat.zero_le _) Q
      simp only [show ((0 : Nat) : Int) = 0 from rfl] at hsift0
      simp only [n126, r126, q0, q3, q8, q9, q12, hk0, hw3, hw4, hsift0, hd2, hk1, ld, st, ix, List.append_nil, Array.size_setIfInBounds, encL_len, i1, i2, SB, Nat.reduceLT, callee, aOp, ne_eq, Nat.reduceEqDiff, aBin, aUn, if_true, if_false, reduceCtorEq, frame0, place, notTuple, Nat.reduceAdd, Nat.reduceLeDiff, resVal, dite_true, dite_false, Int.reduceEq, Int.reduceLT, Int.reduceLE]
      refine hM (k, siftDown (ltC c) k a 0 (swp d2 a (a + k))) _ _ ⟨by simp only; omega, (by simp only [q0, FB, Nat.reduceEqDiff]), (by simp only [q3, FB, Nat.reduceEqDiff]), (by simp only [q8, FB, Nat.reduceEqDiff]), (by simp only [q9, FB, Nat.reduceEqDiff]), (by simp only [FB, Nat.reduceEqDiff]), by simp [swp], by simp only; rw [siftDown_sz _ _ _ (Nat.le_refl _), swp_sz, hd2], hf⟩ (by simp only; omega)
    | zero =>
      rw [heapPop] at hf
      simp only [n126, r126, q0, q3, q8, q9, q12, hf, Int.reduceSub, Int.zero_sub, Int.reduceNeg, SB, Nat.reduceLT, callee, aOp, ne_eq, Nat.reduceEqDiff, aBin, aUn, if_true, if_false, reduceCtorEq, frame0, place, notTuple, Nat.reduceAdd, Nat.reduceLeDiff, resVal, dite_true, dite_false, Int.reduceEq, Int.reduceLT, Int.reduceLE]
theorem scanUp_step {α : Type} [Inhabited α] {p : α → Bool} {d : Array α} {j i : Nat} (h : i ≤ j) (hp : p d[i]! = true) : scanUp p d j i = scanUp p d j (i + 1) := by
  rw [scanUp]; simp [h, hp]
theorem scanUp_stop {α : Type} [Inhabited α] {p : α → Bool} {d : Array α} {j i : Nat} (h : i ≤ j → p d[i]! = false) : scanUp p d j i = i := by
  rw [scanUp]
  by_cases q : i ≤ j
  · simp [h q]
  · simp [q]
theorem scanDown_step {α : Type} [Inhabited α] {p : α → Bool} {d : Array α} {j i : Nat} (h : i ≤ j) (h0 : 0 < j) (hp : p d[j]! = true) : scanDown p d i j = scanDown p d i (j - 1) := by
  obtain ⟨j, rfl⟩ : ∃ j', j = j' + 1 := ⟨j - 1, by omega⟩
  rw [scanDown]; simp [h, hp]
theorem scanDown_stop {α : Type} [Inhabited α] {p : α → Bool} {d : Array α} {j i : Nat} (h : i ≤ j → p d[j]! = false) : scanDown p d i j = j := by
  cases j with
  | zero => rfl
  | succ j =>
    rw [scanDown]
    by_cases q : i ≤ j + 1
    · simp [h q]
    · simp [q]
theorem partEq_stop {α : Type} [Inhabited α] {lt : α → α → Bool} {a i j i2 j2 : Nat} {d : Array α} (h1 : scanUp (fun x => !lt d[a]! x) d j i = i2) (h2 : scanDown (fun x => lt d[a]! x) d i2 j = j2) (h : i2 > j2) : partEqLoop lt a i j d = (i2, d) := by
  rw [partEqLoop]; simp only [h1, h2]; rw [if_pos h]
theorem partEq_next {α : Type} [Inhabited α] {lt : α → α → Bool} {a i j i2 j2 : Nat} {d : Array α} (h1 : scanUp (fun x => !lt d[a]! x) d j i = i2) (h2 : scanDown (fun x => lt d[a]! x) d i2 j = j2) (h : ¬ i2 > j2) (g1 : i ≤ i2) (g2 : j2 ≤ j) (g3 : 0 < i2) : partEqLoop lt a i j d = partEqLoop lt a (i2 + 1) (j2 - 1) (swp d i2 j2) := by
  rw [partEqLoop]; simp only [h1, h2]; rw [if_neg h, dif_pos (by omega)]
theorem peq_ok [OB] {G X : Heap} {B lim cap n : Nat} {p : Option Addr} {c : Go.Net.Leg → Go.Net.Leg → Int} {cl : FuncId} {cs : List Value} {Q : Value → Heap → Prop} (hp : p = some ⟨B, 0, none⟩) (hB : B < G.length) (hl : lim ≤ B) (hn2 : n < 2 ^ 61) (hc : ∀ (mp : Bool) (lim : Nat) (x y : Go.Net.Leg) (H : Heap) (Q : Value → Heap → Prop), CallR E mp lim cl (.agg (encL x).toArray :: .agg (encL y).toArray :: cs) H Q = Q (.int .i64 (c x y)) H) {d : Array Go.Net.Leg} {a b v : Nat} (hd : d.size = n) (hb : b ≤ n) (hab : a ≤ v) (hvb : v < b) :
    CallR E false lim 131 [.slice p n cap, .int .i64 (a : Int), .int .i64 (b : Int), .int .i64 (v : Int), .func (.func cl) #[] cs.toArray] (DH encL G B d ++ X) Q = Q (.int .i64 ((partitionEqual (ltC c) d a b v).1 : Nat)) (DH encL G B (partitionEqual (ltC c) d a b v).2 ++ X) := by
  refine runs (by decide) e131 rfl ?_
  rw [b131, c131]
  have hw0 : IntKind.i64.wrap ((b : Int) - 1) = ((b - 1 : Nat) : Int) := wrap_pred (by omega) (by omega)
  have hw1 : IntKind.i64.wrap ((a : Int) + 1) = ((a + 1 : Nat) : Int) := wrap_nat (by omega)
  generalize hT : partitionEqual (ltC c) d a b v = T
  rw [partitionEqual] at hT
  have ld := fun (i : Nat) (X : Heap) (d : Array Go.Net.Leg) (hd : d.size = n) (hi : i < n) => DH_ld (X := X) (d := d) (i := i) hp hB encL_len (by omega); have st := fun (i : Nat) (X : Heap) (d : Array Go.Net.Leg) (hd : d.size = n) (hi : i < n) (y : Go.Net.Leg) => DH_st (X := X) (d := d) (i := i) (y := y) hp hB hl encL_len (by omega); have ix := fun (i : Nat) (hi : i < n) c (k : IntKind) (H : Heap) => DH_idx (e := 8) (i := i) (n := n) (c := c) (k := k) (H := H) hp hi
  have i1 : a < n := by omega
  have i2 : v < n := by omega
  simp only [n131, r131, hw0, hw1, ld, st, ix, List.append_nil, Array.size_setIfInBounds, encL_len, hd, i1, i2, SB, Nat.reduceLT, callee, aOp, ne_eq, Nat.reduceEqDiff, aBin, aUn, if_true, if_false, reduceCtorEq, frame0, place, notTuple, Nat.reduceAdd, Nat.reduceLeDiff, resVal, dite_true, dite_false, Int.reduceEq, Int.reduceLT, Int.reduceLE]
  refine Ret_rounds (S := (Nat × Nat) × Array Go.Net.Leg) (fun s => s.1.2 + 1 - s.1.1) (fun s fr H => a < s.1.1 ∧ s.1.1 ≤ b ∧ s.1.2 < b ∧ fr 0 = .slice p n cap ∧ fr 1 = .int .i64 (a : Int) ∧ fr 4 = .func (.func cl) #[] cs.toArray ∧ fr 11 = .int .i64 (s.1.1 : Int) ∧ fr 12 = .int .i64 (s.1.2 : Int) ∧
    H = DH encL G B s.2 ++ X ∧ s.2.size = n ∧ T = partEqLoop (ltC c) a s.1.1 s.1.2 s.2) ((a + 1, b - 1), swp d a v) ⟨by simp only; omega, by simp only; omega, by simp only; omega, (by simp only [FB, Nat.reduceEqDiff]), (by simp only [FB, Nat.reduceEqDiff]), (by simp only [FB, Nat.reduceEqDiff]), (by simp only [FB, Nat.reduceEqDiff]), (by simp only [FB, Nat.reduceEqDiff]), by simp [swp], by simp [swp, hd], hT.symm⟩ ?_
  rintro ⟨⟨i, j⟩, d1⟩ fr H ⟨h1, h2, h3, g0, g1, g4, g11, g12, rfl, hd1, he⟩ hN
  simp only at h1 h2 h3 g11 g12 hd1 he
  rw [Ret_code l131_3.eq_1]
  simp only [n131, r131, SB, Nat.reduceLT, callee, aOp, ne_eq, Nat.reduceEqDiff, aBin, aUn, if_true, if_false, reduceCtorEq, frame0, place, notTuple, Nat.reduceAdd, Nat.reduceLeDiff, resVal, dite_true, dite_false, Int.reduceEq, Int.reduceLT, Int.reduceLE]
  refine Ret_rounds (S := Nat) (fun s => b + 1 - s) (fun s fr H => i ≤ s ∧ s ≤ b ∧ fr 0 = .slice p n cap ∧ fr 1 = .int .i64 (a : Int) ∧ fr 4 = .func (.func cl) #[] cs.toArray ∧ fr 11 = .int .i64 (s : Int) ∧ fr 12 = .int .i64 (j : Int) ∧
    H = DH encL G B d1 ++ X ∧ scanUp (fun x => !ltC c d1[a]! x) d1 j i = scanUp (fun x => !ltC c d1[a]! x) d1 j s) i ⟨Nat.le_refl _, h2, g0, g1, g4, g11, g12, rfl, rfl⟩ ?_
  rintro i' fr1 H1 ⟨k1, k2, q0, q1, q4, q11, q12, rfl, hs⟩ hM
  rw [Ret_code l131_2.eq_1]
  by_cases c1 : i' ≤ j ∧ ¬ c d1[a]! d1[i']! < 0
  · obtain ⟨c1, c2⟩ := c1
    have hw2 : IntKind.i64.wrap ((i' : Int) + 1) = ((i' + 1 : Nat) : Int) := wrap_nat (by omega)
    have i3 : i' < n := by omega
    simp only [n131, r131, q0, q1, q4, q11, q12, c1, c2, hw2, ld, st, ix, List.append_nil, Array.size_setIfInBounds, encL_len, hd1, i1, i3, hc, SB, Nat.reduceLT, callee, aOp, ne_eq, Nat.reduceEqDiff, aBin, aUn, if_true, if_false, reduceCtorEq, frame0, place, notTuple, Nat.reduceAdd, Nat.reduceLeDiff, resVal, dite_true, dite_false, Int.reduceEq, Int.reduceLT, Int.reduceLE]
    exact hM (i' + 1) _ _ ⟨by omega, by omega, (by simp only [q0, FB, Nat.reduceEqDiff]), (by simp only [q1, FB, Nat.reduceEqDiff]), (by simp only [q4, FB, Nat.reduceEqDiff]), (by simp only [FB, Nat.reduceEqDiff]), (by simp only [q12, FB, Nat.reduceEqDiff]), rfl, by rw [hs, scanUp_step c1 (by simp [ltC, c2])]⟩ (by omega)
  have hs2 : scanUp (fun x => !ltC c d1[a]! x) d1 j i = i' := by
    rw [hs, scanUp_stop]
    intro q
    by_cases q2 : c d1[a]! d1[i']! < 0
    · simp [ltC, q2]
    · exact absurd ⟨q, q2⟩ c1
  clear hM
  have hx : (i' ≤ j ∧ c d1[a]! d1[i']! < 0) ∨ ¬ i' ≤ j := by
    by_cases q : i' ≤ j
    · exact .inl ⟨q, Classical.byContradiction fun q2 => c1 ⟨q, q2⟩⟩
    · exact .inr q
  have i0 : i' ≤ j → i' < n := fun q => by omega
  rcases hx with ⟨c2, c3⟩ | c2
  case' inl => simp only [n131, r131, q0, q1, q4, q11, q12, c2, c3, ld, st, ix, List.append_nil, Array.size_setIfInBounds, encL_len, hd1, i1, i0 c2, hc, SB, Nat.reduceLT, callee, aOp, ne_eq, Nat.reduceEqDiff, aBin, aUn, if_true, if_false, reduceCtorEq, frame0, place, notTuple, Nat.reduceAdd, Nat.reduceLeDiff, resVal, dite_true, dite_false, Int.reduceEq, Int.reduceLT, Int.reduceLE]
  case' inr => simp only [n131, r131, q0, q1, q4, q11, q12, c2, ld, st, ix, List.append_nil, Array.size_setIfInBounds, encL_len, SB, Nat.reduceLT, callee, aOp, ne_eq, Nat.reduceEqDiff, aBin, aUn, if_true, if_false, reduceCtorEq, frame0, place, notTuple, Nat.reduceAdd, Nat.reduceLeDiff, resVal, dite_true, dite_false, Int.reduceEq, Int.reduceLT, Int.reduceLE]
  all_goals
    refine Ret_rounds (S := Nat) (fun s => s) (fun s fr H => s ≤ j ∧ fr 0 = .slice p n cap ∧ fr 1 = .int .i64 (a : Int) ∧ fr 4 = .func (.func cl) #[] cs.toArray ∧ fr 11 = .int .i64 (i' : Int) ∧ fr 12 = .int .i64 (s : Int) ∧
      H = DH encL G B d1 ++ X ∧ scanDown (fun x => ltC c d1[a]! x) d1 i' j = scanDown (fun x => ltC c d1[a]! x) d1 i' s) j ⟨Nat.le_refl _, (by simp only [q0, FB, Nat.reduceEqDiff]), (by simp only [q1, FB, Nat.reduceEqDiff]), (by simp only [q4, FB, Nat.reduceEqDiff]), (by simp only [q11, FB, Nat.reduceEqDiff]), (by simp only [q12, FB, Nat.reduceEqDiff]), rfl, rfl⟩ ?_
    rintro j' fr2 H2 ⟨m1, p0, p1, p4, p11, p12, rfl, hs'⟩ hM
    rw [Ret_code l131_1.eq_1]
    have i4 : j' < n := by omega
    by_cases c4 : i' ≤ j' ∧ c d1[a]! d1[j']! < 0
    · obtain ⟨c4, c5⟩ := c4
      have hw3 : IntKind.i64.wrap ((j' : Int) - 1) = ((j' - 1 : Nat) : Int) := wrap_pred (by omega) (by omega)
      simp only [n131, r131, p0, p1, p4, p11, p12, c4, c5, hw3, ld, st, ix, List.append_nil, Array.size_setIfInBounds, encL_len, hd1, i1, i4, hc, SB, Nat.reduceLT, callee, aOp, ne_eq, Nat.reduceEqDiff, aBin, aUn, if_true, if_false, reduceCtorEq, frame0, place, notTuple, Nat.reduceAdd, Nat.reduceLeDiff, resVal, dite_true, dite_false, Int.reduceEq, Int.reduceLT, Int.reduceLE]
      exact hM (j' - 1) _ _ ⟨by omega, (by simp only [p0, FB, Nat.reduceEqDiff]), (by simp only [p1, FB, Nat.reduceEqDiff]), (by simp only [p4, FB, Nat.reduceEqDiff]), (by simp only [p11, FB, Nat.reduceEqDiff]), (by simp only [FB, Nat.reduceEqDiff]), rfl, by rw [hs', scanDown_step c4 (by omega) (by simp [ltC, c5])]⟩ (by omega)
    have hs3 : scanDown (fun x => ltC c d1[a]! x) d1 i' j = j' := by
      rw [hs', scanDown_stop]
      intro q
      have q2 : ¬ c d1[a]! d1[j']! < 0 := fun q2 => c4 ⟨q, q2⟩
      simp [ltC, q2]
    clear hM
    by_cases c6 : j' < i'
    · have c7 : ¬ i' ≤ j' := by omega
      rw [partEq_stop hs2 hs3 c6] at he
      simp only [n131, r131, p0, p1, p4, p11, p12, c7, c6, ld, st, ix, List.append_nil, Array.size_setIfInBounds, encL_len, he, SB, Nat.reduceLT, callee, aOp, ne_eq, Nat.reduceEqDiff, aBin, aUn, if_true, if_false, reduceCtorEq, frame0, place, notTuple, Nat.reduceAdd, Nat.reduceLeDiff, resVal, dite_true, dite_false, Int.reduceEq, Int.reduceLT, Int.reduceLE]
    · have c7 : i' ≤ j' := by omega
      have c8 : ¬ c d1[a]! d1[j']! < 0 := fun q => c4 ⟨c7, q⟩
      rw [partEq_next hs2 hs3 c6 k1 m1 (by omega)] at he
      have i5 : i' < n := by omega
      have hw3 : IntKind.i64.wrap ((j' : Int) - 1) = ((j' - 1 : Nat) : Int) := wrap_pred (by omega) (by omega)
      have hw4 : IntKind.i64.wrap ((i' : Int) + 1) = ((i' + 1 : Nat) : Int) := wrap_nat (by omega)
      simp only [n131, r131, p0, p1, p4, p11, p12, c7, c6, c8, hw3, hw4, ld, st, ix, List.append_nil, Array.size_setIfInBounds, encL_len, hd1, i1, i4, i5, hc, SB, Nat.reduceLT, callee, aOp, ne_eq, Nat.reduceEqDiff, aBin, aUn, if_true, if_false, reduceCtorEq, frame0, place, notTuple, Nat.reduceAdd, Nat.reduceLeDiff, resVal, dite_true, dite_false, Int.reduceEq, Int.reduceLT, Int.reduceLE]
      exact hN ((i' + 1, j' - 1), swp d1 i' j') _ _ ⟨by simp only; omega, by simp only; omega, by simp only; omega, (by simp only [p0, FB, Nat.reduceEqDiff]), (by simp only [p1, FB, Nat.reduceEqDiff]), (by simp only [p4, FB, Nat.reduceEqDiff]), (by simp only [FB, Nat.reduceEqDiff]), (by simp only [FB, Nat.reduceEqDiff]), by simp [swp], by simp [swp, hd1], he⟩ (by simp only; omega)
end Go.Proofs.Ytcmhnincbkbncaa.Fn

