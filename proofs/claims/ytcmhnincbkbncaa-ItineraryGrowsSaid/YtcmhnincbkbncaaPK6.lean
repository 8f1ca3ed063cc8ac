/-
  Joined texts, 6 of 8. A part of the claim that the last text states.
-/
import Derived.Test.YtcmhnincbkbncaaPK5
namespace Go.Proofs.Ytcmhnincbkbncaa.Fn
open Go.AM Go.AM.Sym Go.Net
set_option maxRecDepth 100000
set_option linter.unusedVariables false
set_option linter.unusedSimpArgs false
set_option maxHeartbeats 4000000

structure Ev where
  (item place scanner kind at' seen time : Int)
  deriving DecidableEq, Inhabited
def encE (e : Ev) : List Value := [.int .i64 e.item, .int .i64 e.place, .int .i64 e.scanner, .int .u8 e.kind, .int .i64 e.at', .int .i64 e.seen, .int .i64 e.time]
def encN (e : Ev) : List Value := [.int .i64 e.item, .int .i64 e.place, .int .i64 e.scanner, .int .u8 e.kind, .int .i64 e.at', .int .i64 e.seen]
theorem encE_len (e : Ev) : (encE e).length = 7 := id rfl
theorem encN_len (e : Ev) : (encN e).length = 6 := id rfl
theorem encE_0 {e : Ev} : (encE e)[0]? = some (.int .i64 e.item) := id rfl
theorem encE_1 {e : Ev} : (encE e)[1]? = some (.int .i64 e.place) := id rfl
theorem encE_2 {e : Ev} : (encE e)[2]? = some (.int .i64 e.scanner) := id rfl
theorem encE_3 {e : Ev} : (encE e)[3]? = some (.int .u8 e.kind) := id rfl
theorem encE_4 {e : Ev} : (encE e)[4]? = some (.int .i64 e.at') := id rfl
theorem encE_5 {e : Ev} : (encE e)[5]? = some (.int .i64 e.seen) := id rfl
theorem encE_6 {e : Ev} : (encE e)[6]? = some (.int .i64 e.time) := id rfl
theorem encE_scan {e : Ev} : (encE e).take 6 = encN e := id rfl
def FineE (e : Ev) : Prop := (1 ≤ e.item ∧ e.item ≤ 999999) ∧ (1 ≤ e.place ∧ e.place ≤ 999999) ∧ (1 ≤ e.scanner ∧ e.scanner ≤ 999999) ∧ (1 ≤ e.kind ∧ e.kind ≤ 4) ∧ (0 ≤ e.at' ∧ e.at' ≤ maxTime) ∧ (0 ≤ e.seen ∧ e.seen ≤ maxTime)
instance (e : Ev) : Decidable (FineE e) := by unfold FineE; infer_instance

theorem isid_ok [OB] {mp : Bool} {lim : Nat} {a : Int} {H : Heap} {Q : Value → Heap → Prop} : CallR E mp lim 135 [.int .i64 a] H Q = Q (.bool (decide (1 ≤ a ∧ a ≤ 999999))) H := by
  refine pc (by decide) e135 rfl rfl ?_
  rw [b135, c135]
  by_cases h1 : 1 ≤ a
  · simp only [n135, r135, eq_true h1, SB, Nat.reduceLT, callee, aOp, ne_eq, Nat.reduceEqDiff, aBin, aUn, if_true, if_false, reduceCtorEq, frame0, place, notTuple, Nat.reduceAdd, Nat.reduceLeDiff, resVal, dite_true, dite_false, Int.reduceEq, Int.reduceLT, Int.reduceLE]
  · simp only [n135, r135, eq_false h1, SB, Nat.reduceLT, callee, aOp, ne_eq, Nat.reduceEqDiff, aBin, aUn, if_true, if_false, reduceCtorEq, frame0, place, notTuple, Nat.reduceAdd, Nat.reduceLeDiff, resVal, dite_true, dite_false, Int.reduceEq, Int.reduceLT, Int.reduceLE]
theorem istime_ok [OB] {mp : Bool} {lim : Nat} {a : Int} {H : Heap} {Q : Value → Heap → Prop} : CallR E mp lim 136 [.int .i64 a] H Q = Q (.bool (decide (0 ≤ a ∧ a ≤ maxTime))) H := by
  refine pc (by decide) e136 rfl rfl ?_
  rw [b136, c136]
  unfold maxTime
  by_cases h1 : 0 ≤ a
  · simp only [n136, r136, eq_true h1, SB, Nat.reduceLT, callee, aOp, ne_eq, Nat.reduceEqDiff, aBin, aUn, if_true, if_false, reduceCtorEq, frame0, place, notTuple, Nat.reduceAdd, Nat.reduceLeDiff, resVal, dite_true, dite_false, Int.reduceEq, Int.reduceLT, Int.reduceLE]
  · simp only [n136, r136, eq_false h1, SB, Nat.reduceLT, callee, aOp, ne_eq, Nat.reduceEqDiff, aBin, aUn, if_true, if_false, reduceCtorEq, frame0, place, notTuple, Nat.reduceAdd, Nat.reduceLeDiff, resVal, dite_true, dite_false, Int.reduceEq, Int.reduceLT, Int.reduceLE]
theorem sright_ok [OB] {mp : Bool} {lim : Nat} {e : Ev} {H : Heap} {Q : Value → Heap → Prop} : CallR E mp lim 124 [.agg (encN e).toArray] H Q = Q (.bool (decide (FineE e))) H := by
  refine pc (by decide) e124 rfl rfl ?_
  rw [b124, c124]
  have no : ¬ FineE e → decide (FineE e) = false := fun h => decide_eq_false h
  by_cases h1 : 1 ≤ e.item ∧ e.item ≤ 999999
  case neg => simp only [n124, r124, encN, isid_ok, istime_ok, decide_eq_false h1, no (fun h => h1 h.1), SB, Nat.reduceLT, callee, aOp, ne_eq, Nat.reduceEqDiff, aBin, aUn, if_true, if_false, reduceCtorEq, frame0, place, notTuple, Nat.reduceAdd, Nat.reduceLeDiff, resVal, dite_true, dite_false, Int.reduceEq, Int.reduceLT, Int.reduceLE]
  by_cases h2 : 1 ≤ e.place ∧ e.place ≤ 999999
  case neg => simp only [n124, r124, encN, isid_ok, istime_ok, decide_eq_true h1, decide_eq_false h2, no (fun h => h2 h.2.1), SB, Nat.reduceLT, callee, aOp, ne_eq, Nat.reduceEqDiff, aBin, aUn, if_true, if_false, reduceCtorEq, frame0, place, notTuple, Nat.reduceAdd, Nat.reduceLeDiff, resVal, dite_true, dite_false, Int.reduceEq, Int.reduceLT, Int.reduceLE]
  by_cases h3 : 1 ≤ e.scanner ∧ e.scanner ≤ 999999
  case neg => simp only [n124, r124, encN, isid_ok, istime_ok, decide_eq_true h1, decide_eq_true h2, decide_eq_false h3, no (fun h => h3 h.2.2.1), SB, Nat.reduceLT, callee, aOp, ne_eq, Nat.reduceEqDiff, aBin, aUn, if_true, if_false, reduceCtorEq, frame0, place, notTuple, Nat.reduceAdd, Nat.reduceLeDiff, resVal, dite_true, dite_false, Int.reduceEq, Int.reduceLT, Int.reduceLE]
  by_cases h4 : 1 ≤ e.kind
  case neg => simp only [n124, r124, encN, isid_ok, istime_ok, decide_eq_true h1, decide_eq_true h2, decide_eq_true h3, eq_false h4, no (fun h => h4 h.2.2.2.1.1), SB, Nat.reduceLT, callee, aOp, ne_eq, Nat.reduceEqDiff, aBin, aUn, if_true, if_false, reduceCtorEq, frame0, place, notTuple, Nat.reduceAdd, Nat.reduceLeDiff, resVal, dite_true, dite_false, Int.reduceEq, Int.reduceLT, Int.reduceLE]
  by_cases h5 : e.kind ≤ 4
  case neg => simp only [n124, r124, encN, isid_ok, istime_ok, decide_eq_true h1, decide_eq_true h2, decide_eq_true h3, eq_true h4, eq_false h5, no (fun h => h5 h.2.2.2.1.2), SB, Nat.reduceLT, callee, aOp, ne_eq, Nat.reduceEqDiff, aBin, aUn, if_true, if_false, reduceCtorEq, frame0, place, notTuple, Nat.reduceAdd, Nat.reduceLeDiff, resVal, dite_true, dite_false, Int.reduceEq, Int.reduceLT, Int.reduceLE]
  by_cases h6 : 0 ≤ e.at' ∧ e.at' ≤ maxTime
  case neg => simp only [n124, r124, encN, isid_ok, istime_ok, decide_eq_true h1, decide_eq_true h2, decide_eq_true h3, eq_true h4, eq_true h5, decide_eq_false h6, no (fun h => h6 h.2.2.2.2.1), SB, Nat.reduceLT, callee, aOp, ne_eq, Nat.reduceEqDiff, aBin, aUn, if_true, if_false, reduceCtorEq, frame0, place, notTuple, Nat.reduceAdd, Nat.reduceLeDiff, resVal, dite_true, dite_false, Int.reduceEq, Int.reduceLT, Int.reduceLE]
  have hh : decide (FineE e) = decide (0 ≤ e.seen ∧ e.seen ≤ maxTime) := by
    rw [decide_eq_decide]
    exact ⟨fun h => h.2.2.2.2.2, fun h => ⟨h1, h2, h3, ⟨h4, h5⟩, h6, h⟩⟩
  simp only [n124, r124, encN, isid_ok, istime_ok, decide_eq_true h1, decide_eq_true h2, decide_eq_true h3, eq_true h4, eq_true h5, decide_eq_true h6, hh, SB, Nat.reduceLT, callee, aOp, ne_eq, Nat.reduceEqDiff, aBin, aUn, if_true, if_false, reduceCtorEq, frame0, place, notTuple, Nat.reduceAdd, Nat.reduceLeDiff, resVal, dite_true, dite_false, Int.reduceEq, Int.reduceLT, Int.reduceLE]
theorem sright1_ok [OB] {mp : Bool} {lim B : Nat} {e : Ev} {o : Bool} {H : Heap} {Q : Value → Heap → Prop} (hB : hget H B = .cells o (encN e)) : CallR E mp lim 114 [.slice (some ⟨B, 0, none⟩) 1 1] H Q = Q (.bool (decide (FineE e))) H := by
  refine pc (by decide) e114 rfl rfl ?_
  rw [b114, c114]
  have hBX := fun X => (Ext.refl.app (X := X)).cells hB
  have i0 : ∀ k (H1 : Heap), idxK 6 (.slice (some ⟨B, 0, none⟩) 1 1) (.int k 0) H1 = some (.pointer (some ⟨B, 0, none⟩), H1) := fun k H1 => by simp [idxK, addr_add]
  have w1 : IntKind.i64.wrap (0 + 1) = 1 := by decide
  simp only [n114, r114, SB, Nat.reduceLT, callee, aOp, ne_eq, Nat.reduceEqDiff, aBin, aUn, if_true, if_false, reduceCtorEq, frame0, place, notTuple, Nat.reduceAdd, Nat.reduceLeDiff, resVal, dite_true, dite_false, Int.reduceEq, Int.reduceLT, Int.reduceLE]
  rw [Ret_loop, Ret_code l114_1.eq_1]
  cases h : decide (FineE e) with
  | false => simp only [n114, r114, hBX, i0, encN_len, take_all, setAll_full, sright_ok, h, SB, Nat.reduceLT, callee, aOp, ne_eq, Nat.reduceEqDiff, aBin, aUn, if_true, if_false, reduceCtorEq, frame0, place, notTuple, Nat.reduceAdd, Nat.reduceLeDiff, resVal, dite_true, dite_false, Int.reduceEq, Int.reduceLT, Int.reduceLE]
  | true =>
    simp only [n114, r114, hBX, i0, encN_len, take_all, setAll_full, sright_ok, h, w1, SB, Nat.reduceLT, callee, aOp, ne_eq, Nat.reduceEqDiff, aBin, aUn, if_true, if_false, reduceCtorEq, frame0, place, notTuple, Nat.reduceAdd, Nat.reduceLeDiff, resVal, dite_true, dite_false, Int.reduceEq, Int.reduceLT, Int.reduceLE]
    rw [Ret_inLoop, Ret_code l114_1.eq_1]
    simp only [n114, r114, SB, Nat.reduceLT, callee, aOp, ne_eq, Nat.reduceEqDiff, aBin, aUn, if_true, if_false, reduceCtorEq, frame0, place, notTuple, Nat.reduceAdd, Nat.reduceLeDiff, resVal, dite_true, dite_false, Int.reduceEq, Int.reduceLT, Int.reduceLE]

def evOk (es : List Ev) (i : Nat) : Prop := FineE (gt es i) ∧ 0 ≤ (gt es i).time ∧ (gt es i).time ≤ maxTime ∧ (0 < i → (gt es i).item = (gt es 0).item ∧ (gt es (i - 1)).time ≤ (gt es i).time)
instance (es : List Ev) (i : Nat) : Decidable (evOk es i) := by unfold evOk; infer_instance
def EvsOk (es : List Ev) : Prop := ∀ i, i < es.length → evOk es i
instance (es : List Ev) : Decidable (EvsOk es) := by unfold EvsOk; infer_instance
/-- The error of a network and events. -/
def errI (P : List Int) (L : List Leg) (es : List Ev) : Int := if validN P L ≠ 0 then validN P L else if 40 < es.length then 5 else if EvsOk es then 0 else 2
theorem errI_0 {P : List Int} {L : List Leg} {es : List Ev} (h : errI P L es = 0) : validN P L = 0 ∧ es.length ≤ 40 ∧ EvsOk es := by
  unfold errI at h
  split at h
  · contradiction
  · split at h
    · cases h
    · split at h
      · rename_i h1 h2 h3
        exact ⟨by simpa using h1, by omega, h3⟩
      · cases h

theorem check_ok [OB] {mp : Bool} {lim ce : Nat} {pp pl pe : Option Addr} {P : List Int} {L : List Leg} {cp cl : Nat} {es : List Ev} {H : Heap} {Q : Value → Heap → Prop} (hn : NetIn H pp pl P L) (hs : Sl H encE 7 pe es) (hsl : es.length < 2 ^ 63) :
    CallR E mp lim 86 [.agg (netV pp P.length cp pl L.length cl).toArray, .slice pe es.length ce] H Q = Q (.int .i64 (errI P L es)) H := by
  refine pc (by decide) e86 rfl rfl ?_
  rw [b86, c86]
  have hv := fun X (mp : Bool) (lim : Nat) (Q : Value → Heap → Prop) => valid_ok (mp := mp) (lim := lim) (cp := cp) (cl := cl) (Q := Q) (hn.app X)
  by_cases h0 : validN P L = 0
  case neg =>
    have e : errI P L es = validN P L := by unfold errI; rw [if_pos h0]
    simp only [n86, r86, netV_len, netV_0, netV_1, take_all, hv, eq_false h0, e, SB, Nat.reduceLT, callee, aOp, ne_eq, Nat.reduceEqDiff, aBin, aUn, if_true, if_false, reduceCtorEq, frame0, place, notTuple, Nat.reduceAdd, Nat.reduceLeDiff, resVal, dite_true, dite_false, Int.reduceEq, Int.reduceLT, Int.reduceLE]
  by_cases h40 : (40 : Int) < (es.length : Int)
  · have e : errI P L es = 5 := by unfold errI; rw [if_neg (by simpa using h0), if_pos (by omega)]
    simp only [n86, r86, netV_len, netV_0, netV_1, take_all, hv, eq_true h0, eq_true h40, e, SB, Nat.reduceLT, callee, aOp, ne_eq, Nat.reduceEqDiff, aBin, aUn, if_true, if_false, reduceCtorEq, frame0, place, notTuple, Nat.reduceAdd, Nat.reduceLeDiff, resVal, dite_true, dite_false, Int.reduceEq, Int.reduceLT, Int.reduceLE]
  have e2 : errI P L es = if EvsOk es then 0 else 2 := by unfold errI; rw [if_neg (by simpa using h0), if_neg (by omega)]
  simp only [n86, r86, netV_len, netV_0, netV_1, take_all, hv, eq_true h0, eq_false h40, SB, Nat.reduceLT, callee, aOp, ne_eq, Nat.reduceEqDiff, aBin, aUn, if_true, if_false, reduceCtorEq, frame0, place, notTuple, Nat.reduceAdd, Nat.reduceLeDiff, resVal, dite_true, dite_false, Int.reduceEq, Int.reduceLT, Int.reduceLE]
  refine Ret_rounds (fun i => es.length - i) (fun i fr G => i ≤ es.length ∧ fr 1 = .slice pe es.length ce ∧ fr 16 = .slice pe es.length ce ∧ fr 17 = .int .i64 (es.length : Int) ∧ fr 18 = .int .i64 (i : Int) ∧ Ext H G ∧ ∀ j, j < i → evOk es j) 0
    ⟨Nat.zero_le _, (by simp only [FB, Nat.reduceEqDiff]), (by simp only [FB, Nat.reduceEqDiff]), (by simp only [FB, Nat.reduceEqDiff]), by rfl, Ext.refl.app, fun j hj => by omega⟩ ?_
  intro i fr G ⟨hi, f1, f16, f17, f18, hE, hall⟩ hN
  rw [Ret_code l86_1.eq_1]
  refine Ret_pad ?_
  have hl := hE.len
  by_cases hlt : i < es.length
  case neg =>
    obtain rfl : i = es.length := by omega
    rw [if_pos (show EvsOk es from hall)] at e2
    simp only [n86, r86, f1, f16, f17, f18, hlt, e2, SB, Nat.reduceLT, callee, aOp, ne_eq, Nat.reduceEqDiff, aBin, aUn, if_true, if_false, reduceCtorEq, frame0, place, notTuple, Nat.reduceAdd, Nat.reduceLeDiff, resVal, dite_true, dite_false, Int.reduceEq, Int.reduceLT, Int.reduceLE]
  have hsG := hE.sl hs
  have ld := fun X => (hsG.app X).loadCells encE_len hlt
  have ix := fun c (kk : IntKind) (H1 : Heap) => hsG.idx (c := c) (k := kk) (H1 := H1) hlt
  have l0 := fun X => (hsG.app X).loadCell encE_len (i := 0) (j := 0) (by omega) (by decide)
  rw [encE_0] at l0
  replace l0 : ∀ X, AM.loadCell (G ++ X) (((elt pe 7 0).add 0).add 0) = some (.int .i64 (gt es 0).item) := l0
  have i0 := fun c (kk : IntKind) (H1 : Heap) => hsG.idx (c := c) (k := kk) (H1 := H1) (i := 0) (by omega)
  simp only [Int.cast_ofNat_Int] at i0
  have hw1 : IntKind.i64.wrap ((i : Int) + 1) = ((i + 1 : Nat) : Int) := wrap_nat (by omega)
  have bad : ¬ evOk es i → errI P L es = 2 := fun h => by rw [e2, if_neg fun hh => h (hh i hlt)]
  have hsr := fun (G : Heap) (B : Nat) (o : Bool) (h : hget G B = .cells o (encN (gt es i))) (mp : Bool) (lim : Nat) (Q : Value → Heap → Prop) => sright1_ok (mp := mp) (lim := lim) (Q := Q) h
  have hs1 : ∀ (X : Heap) (mp : Bool) (lim : Nat) (Q : Value → Heap → Prop), CallR E mp lim 114 [.slice (some ⟨G.length + 1, 0, none⟩) 1 1] (G ++ .cells false (encE (gt es i)) :: .cells false (encN (gt es i)) :: X) Q = Q (.bool (decide (FineE (gt es i)))) (G ++ .cells false (encE (gt es i)) :: .cells false (encN (gt es i)) :: X) := fun X mp lim Q => sright1_ok (o := false) (by rw [hget_new]; rfl)
  by_cases h1 : FineE (gt es i)
  case neg =>
    simp only [n86, r86, f1, f16, f17, f18, hlt, ld, ix, encE_len, encE_0, encE_1, encE_2, encE_3, encE_4, encE_5, encE_6, take_all, setAll_full, hl, encE_scan, encN_len, hs1, decide_eq_false h1, SB, Nat.reduceLT, callee, aOp, ne_eq, Nat.reduceEqDiff, aBin, aUn, if_true, if_false, reduceCtorEq, frame0, place, notTuple, Nat.reduceAdd, Nat.reduceLeDiff, resVal, dite_true, dite_false, Int.reduceEq, Int.reduceLT, Int.reduceLE]
    rw [bad fun h => h1 h.1]
  by_cases h2 : (gt es i).time < 0
  · simp only [n86, r86, f1, f16, f17, f18, hlt, ld, ix, encE_len, encE_0, encE_1, encE_2, encE_3, encE_4, encE_5, encE_6, take_all, setAll_full, hl, encE_scan, encN_len, hs1, decide_eq_true h1, eq_true h2, SB, Nat.reduceLT, callee, aOp, ne_eq, Nat.reduceEqDiff, aBin, aUn, if_true, if_false, reduceCtorEq, frame0, place, notTuple, Nat.reduceAdd, Nat.reduceLeDiff, resVal, dite_true, dite_false, Int.reduceEq, Int.reduceLT, Int.reduceLE]
    rw [bad fun h => by have := h.2.1; omega]
  by_cases h3 : 1051898399 < (gt es i).time
  · simp only [n86, r86, f1, f16, f17, f18, hlt, ld, ix, encE_len, encE_0, encE_1, encE_2, encE_3, encE_4, encE_5, encE_6, take_all, setAll_full, hl, encE_scan, encN_len, hs1, decide_eq_true h1, eq_false h2, eq_true h3, SB, Nat.reduceLT, callee, aOp, ne_eq, Nat.reduceEqDiff, aBin, aUn, if_true, if_false, reduceCtorEq, frame0, place, notTuple, Nat.reduceAdd, Nat.reduceLeDiff, resVal, dite_true, dite_false, Int.reduceEq, Int.reduceLT, Int.reduceLE]
    rw [bad fun h => by have := h.2.2.1; unfold maxTime at this; omega]
  by_cases h4 : 0 < i
  case neg =>
    obtain rfl : i = 0 := by omega
    have w0 : IntKind.i64.wrap (0 + 1) = 1 := by decide
    simp only [n86, r86, f1, f16, f17, f18, hlt, ld, ix, encE_len, encE_0, encE_1, encE_2, encE_3, encE_4, encE_5, encE_6, take_all, setAll_full, hl, encE_scan, encN_len, hs1, decide_eq_true h1, eq_false h2, eq_false h3, i0, w0, SB, Nat.reduceLT, callee, aOp, ne_eq, Nat.reduceEqDiff, aBin, aUn, if_true, if_false, reduceCtorEq, frame0, place, notTuple, Nat.reduceAdd, Nat.reduceLeDiff, resVal, dite_true, dite_false, Int.reduceEq, Int.reduceLT, Int.reduceLE]
    exact hN 1 _ _ ⟨by omega, (by simp only [f1, FB, Nat.reduceEqDiff]), (by simp only [f16, FB, Nat.reduceEqDiff]), (by simp only [f17, FB, Nat.reduceEqDiff]), by rfl, hE.app, fun j hj => by
      obtain rfl : j = 0 := by omega
      exact ⟨h1, by omega, by unfold maxTime; omega, fun h => by omega⟩⟩ (by omega)
  obtain ⟨k, rfl⟩ : ∃ k, i = k + 1 := ⟨i - 1, by omega⟩
  have lk := fun X => (hsG.app X).loadCell encE_len (i := k) (j := 6) (by omega) (by decide)
  rw [encE_6] at lk
  have ik := fun c (kk : IntKind) (H1 : Heap) => hsG.idx (c := c) (k := kk) (H1 := H1) (i := k) (by omega)
  have wk : IntKind.i64.wrap (((k + 1 : Nat) : Int) - 1) = (k : Int) := by rw [wrap_id (by omega) (by omega)]; omega
  have kp := eq_true (show 0 < k + 1 by omega)
  by_cases h5 : (gt es (k + 1)).item = (gt es 0).item
  case neg =>
    simp only [n86, r86, f1, f16, f17, f18, hlt, ld, ix, encE_len, encE_0, encE_1, encE_2, encE_3, encE_4, encE_5, encE_6, take_all, setAll_full, hl, encE_scan, encN_len, hs1, decide_eq_true h1, eq_false h2, eq_false h3, l0, i0, kp, eq_false h5, SB, Nat.reduceLT, callee, aOp, ne_eq, Nat.reduceEqDiff, aBin, aUn, if_true, if_false, reduceCtorEq, frame0, place, notTuple, Nat.reduceAdd, Nat.reduceLeDiff, resVal, dite_true, dite_false, Int.reduceEq, Int.reduceLT, Int.reduceLE]
    rw [bad fun h => h5 (h.2.2.2 (by omega)).1]
  by_cases h6 : (gt es (k + 1)).time < (gt es k).time
  · simp only [n86, r86, f1, f16, f17, f18, hlt, ld, ix, encE_len, encE_0, encE_1, encE_2, encE_3, encE_4, encE_5, encE_6, take_all, setAll_full, hl, encE_scan, encN_len, hs1, decide_eq_true h1, eq_false h2, eq_false h3, l0, i0, kp, eq_true h5, lk, ik, wk, eq_true h6, SB, Nat.reduceLT, callee, aOp, ne_eq, Nat.reduceEqDiff, aBin, aUn, if_true, if_false, reduceCtorEq, frame0, place, notTuple, Nat.reduceAdd, Nat.reduceLeDiff, resVal, dite_true, dite_false, Int.reduceEq, Int.reduceLT, Int.reduceLE]
    rw [bad fun h => by have h7 := (h.2.2.2 (by omega)).2; rw [Nat.add_sub_cancel] at h7; omega]
  simp only [n86, r86, f1, f16, f17, f18, hlt, ld, ix, encE_len, encE_0, encE_1, encE_2, encE_3, encE_4, encE_5, encE_6, take_all, setAll_full, hl, encE_scan, encN_len, hs1, decide_eq_true h1, eq_false h2, eq_false h3, l0, i0, kp, eq_true h5, lk, ik, wk, eq_false h6, hw1, SB, Nat.reduceLT, callee, aOp, ne_eq, Nat.reduceEqDiff, aBin, aUn, if_true, if_false, reduceCtorEq, frame0, place, notTuple, Nat.reduceAdd, Nat.reduceLeDiff, resVal, dite_true, dite_false, Int.reduceEq, Int.reduceLT, Int.reduceLE]
  exact hN (k + 2) _ _ ⟨by omega, (by simp only [f1, FB, Nat.reduceEqDiff]), (by simp only [f16, FB, Nat.reduceEqDiff]), (by simp only [f17, FB, Nat.reduceEqDiff]), (by simp only [FB, Nat.reduceEqDiff]), hE.app, fun j hj => by
    rcases Nat.lt_or_ge j (k + 1) with h | h
    · exact hall j h
    · obtain rfl : j = k + 1 := by omega
      exact ⟨h1, by omega, by unfold maxTime; omega, fun _ => ⟨h5, by rw [Nat.add_sub_cancel]; omega⟩⟩⟩ (by omega)
end Go.Proofs.Ytcmhnincbkbncaa.Fn
namespace Go.Proofs.Ytcmhnincbkbncaa.Fn
open Go.AM Go.AM.Sym Go.Net
set_option maxRecDepth 100000
set_option linter.unusedVariables false
set_option linter.unusedSimpArgs false
set_option maxHeartbeats 4000000

/-- The earliest arrival, as a number. -/
def manyN : Nat := 5000000
theorem manyN_eq : manyN = 5000000 := rfl
attribute [irreducible] manyN
def arrV (P : List Int) (L : List Leg) (p t q : Int) : Int := (arrK 50 (posN P) (t + 86400) L p t manyN).getD (posN P q) (-1)
theorem arrV_is {P : List Int} {L : List Leg} {p t q : Int} (hn : NetOk 50 P L (posN P)) (hp : p ∈ P) (hq : q ∈ P) (ht : 0 ≤ t) : IsArr L p t q (arrV P L p t q) := by
  obtain ⟨n, h1, h2, _⟩ := arr_rest (lim := t + 86400) hn hp ht (by omega)
  have h3 := arrK_all hn hp ht (by omega : t ≤ t + 86400) h2 q hq
  obtain ⟨j, hj⟩ : ∃ j, manyN = n + j := ⟨manyN - n, by rw [manyN_eq]; omega⟩
  unfold arrV
  rw [hj, arrK_fix h2 j]
  exact h3
/-- The price of a step. -/
def priceN (P : List Int) (L : List Leg) (a b : Ev) : Int :=
  if a.kind = 4 then 80 else if a.place = b.place then 0 else if b.place ∉ P then 80 else if errA P L a.place a.place a.time ≠ 0 then 80 else
  if arrV P L a.place a.time b.place < 0 then 80 else min (max (arrV P L a.place a.time b.place - b.time) 0) 60
theorem priceN_range {P : List Int} {L : List Leg} {a b : Ev} : 0 ≤ priceN P L a b ∧ priceN P L a b ≤ 80 := by
  unfold priceN
  repeat' split
  all_goals omega

theorem slSimA {α : Type} {G G' : Heap} {enc : α → List Value} {e : Nat} {p : Option Addr} {l : List α} (h : Sl G enc e p l) (hk : ∀ a, p = some a → l ≠ [] → ∀ ro c, hget G a.block = .cells ro c → hget G' a.block = .cells ro c) : Sl G' enc e p l := by
  cases p with
  | none => exact h
  | some a =>
    refine ⟨h.1, fun hn => ?_⟩
    obtain ⟨ro, c, h2, h3⟩ := h.2 hn
    exact ⟨ro, c, hk a rfl hn _ _ h2, h3⟩
def Off {α : Type} (S : List Nat) (p : Option Addr) (l : List α) : Prop := ∀ a, p = some a → l ≠ [] → a.block ∉ S
theorem Off.grow {α : Type} {S : List Nat} {p : Option Addr} {l : List α} {G : Heap} {enc : α → List Value} {e b : Nat} (h : Off S p l) (hs : Sl G enc e p l) (hb : G.length ≤ b) : Off (b :: S) p l := fun a ha hn hm => by
  subst ha
  obtain ⟨ro, c, h2, h3⟩ := hs.2 hn
  have := hget_alive h2
  rcases List.mem_cons.1 hm with h1 | h1
  · omega
  · exact h a rfl hn h1
def MemoOk (S : List Nat) (G : Heap) (P : List Int) (L : List Leg) (a t : Int) (v : Value) : Prop :=
  (errA P L a a t ≠ 0 ∧ v = .slice none 0 0) ∨ (errA P L a a t = 0 ∧ ∃ q T, v = .slice q P.length (loose 1) ∧ Sl G encI 1 q T ∧ arrL P L a t T ∧ Off S q T)
theorem MemoOk.keep {S : List Nat} {G G' : Heap} {P : List Int} {L : List Leg} {a t : Int} {v : Value} (h : MemoOk S G P L a t v) (hk : ∀ b ro c, b ∉ S → hget G b = .cells ro c → hget G' b = .cells ro c) : MemoOk S G' P L a t v := by
  rcases h with h | ⟨h, q, T, h1, h2, h3, h4⟩
  · exact .inl h
  · exact .inr ⟨h, q, T, h1, slSimA h2 fun a ha hn ro c => hk _ _ _ (h4 a ha hn), h3, h4⟩
def memV (ms : List (Int × Int × Value)) : List (Value × Value) := ms.map fun x => (.agg #[.int .i64 x.1, .int .i64 x.2.1], x.2.2)
/-- A pricer, whose blocks are none of S. -/
structure PI (lim R M : Nat) (S : List Nat) (G : Heap) (pp pl : Option Addr) (cp cl : Nat) (P : List Int) (L : List Leg) : Prop where
  net : NetIn G pp pl P L
  op : Off S pp P
  ol : Off S pl L
  r : hget G R = .cells false [.slice pp P.length cp, .slice pl L.length cl, .map (some M)]
  oR : R ∉ S
  oM : M ∉ S
  m : ∃ ms, hget G M = .map (memV ms) ∧ ∀ x ∈ ms, MemoOk S G P L x.1 x.2.1 x.2.2
  lM : lim ≤ M
  sl : ∀ j ∈ S, j < G.length
section
variable {lim R M : Nat} {S : List Nat} {G G' : Heap} {pp pl : Option Addr} {cp cl : Nat} {P : List Int} {L : List Leg}
theorem PI.alive (h : PI lim R M S G pp pl cp cl P L) : M < G.length := by
  obtain ⟨ms, h1, _⟩ := h.m
  exact hget_alive' h1
theorem NetIn.sim {H : Heap} (h : NetIn H pp pl P L) (hk : ∀ b ro c, hget H b = .cells ro c → hget G b = .cells ro c) : NetIn G pp pl P L := ⟨h.sp.sim hk, h.sl.sim hk, h.np, h.nl, h.bys⟩
theorem PI.keep (h : PI lim R M S G pp pl cp cl P L) (hk : ∀ b ro c, b ∉ S → hget G b = .cells ro c → hget G' b = .cells ro c) (hM : hget G' M = hget G M) (hl : G.length ≤ G'.length) : PI lim R M S G' pp pl cp cl P L := by
  obtain ⟨ms, h1, h2⟩ := h.m
  exact ⟨⟨slSimA h.net.sp fun a ha hn ro c => hk _ _ _ (h.op a ha hn), slSimA h.net.sl fun a ha hn ro c => hk _ _ _ (h.ol a ha hn), h.net.np, h.net.nl, h.net.bys⟩, h.op, h.ol, hk _ _ _ h.oR h.r, h.oR, h.oM, ⟨ms, hM.trans h1, fun x hx => (h2 x hx).keep hk⟩, h.lM, fun j hj => by have := h.sl j hj; omega⟩
theorem PI.chg (h : PI lim R M S G pp pl cp cl P L) (hc : Chg S G G') : PI lim R M S G' pp pl cp cl P L :=
  h.keep (fun b ro c hb hg => hc.cells hg hb) (hc.other _ h.alive h.oM) hc.len
theorem PI.app (h : PI lim R M S G pp pl cp cl P L) (X : Heap) : PI lim R M S (G ++ X) pp pl cp cl P L := h.chg Chg.refl.app
theorem PI.chgk (h : PI lim R M S G pp pl cp cl P L) (hc : Chg [M] G G') : ∀ b ro c, hget G b = .cells ro c → hget G' b = .cells ro c := fun b ro c hb => hc.cells hb fun hm => by
  obtain ⟨ms, h1, _⟩ := h.m
  rw [List.mem_singleton.1 hm, h1] at hb
  cases hb
theorem MemoOk.grow {b : Nat} {a t : Int} {v : Value} (h : MemoOk S G P L a t v) (hb : G.length ≤ b) : MemoOk (b :: S) G P L a t v := by
  rcases h with h | ⟨h, q, T, h1, h2, h3, h4⟩
  · exact .inl h
  · exact .inr ⟨h, q, T, h1, h2, h3, h4.grow h2 hb⟩
theorem PI.growC {b : Nat} (h : PI lim R M S G pp pl cp cl P L) (hc : Chg S G G') (hb : G.length ≤ b) (hb2 : b < G'.length) : PI lim R M (b :: S) G' pp pl cp cl P L := by
  have h' := h.chg hc
  obtain ⟨ms, h1, h2⟩ := h.m
  have hR := hget_alive h.r
  have hM := h.alive
  refine ⟨h'.net, h.op.grow h.net.sp hb, h.ol.grow h.net.sl hb, h'.r, ?_, ?_, ⟨ms, (hc.other _ hM h.oM).trans h1, fun x hx => ?_⟩, h.lM, ?_⟩
  · intro hm
    rcases List.mem_cons.1 hm with e | e
    · omega
    · exact h.oR e
  · intro hm
    rcases List.mem_cons.1 hm with e | e
    · omega
    · exact h.oM e
  · rcases (h2 x hx).grow hb with k | ⟨k, q, T, k1, k2, k3, k4⟩
    · exact .inl k
    · exact .inr ⟨k, q, T, k1, slSimA k2 fun a ha hn ro c hg => hc.cells hg fun hm => k4 a ha hn (List.mem_cons_of_mem _ hm), k3, k4⟩
  · intro j hj
    rcases List.mem_cons.1 hj with e | e
    · omega
    · have := h.sl j e; have := hc.len; omega
theorem PI.grow {b : Nat} (h : PI lim R M S G pp pl cp cl P L) (X : Heap) (hb : G.length ≤ b) (hb2 : b < G.length + X.length) : PI lim R M (b :: S) (G ++ X) pp pl cp cl P L :=
  h.growC Chg.refl.app hb (by simpa using hb2)
theorem PI.sub {S' : List Nat} (h : PI lim R M S G pp pl cp cl P L) (hS : ∀ j ∈ S', j ∈ S) : PI lim R M S' G pp pl cp cl P L := by
  obtain ⟨ms, h1, h2⟩ := h.m
  refine ⟨h.net, fun a ha hn hm => h.op a ha hn (hS _ hm), fun a ha hn hm => h.ol a ha hn (hS _ hm), h.r, fun hm => h.oR (hS _ hm), fun hm => h.oM (hS _ hm), ⟨ms, h1, fun x hx => ?_⟩, h.lM, fun j hj => h.sl j (hS _ hj)⟩
  rcases h2 x hx with k | ⟨k, q, T, k1, k2, k3, k4⟩
  · exact .inl k
  · exact .inr ⟨k, q, T, k1, k2, k3, fun a ha hn hm => k4 a ha hn (hS _ hm)⟩
end

theorem memo_find {a t : Int} : ∀ (ms : List (Int × Int × Value)) (i : Nat), (findKey (.agg #[.int .i64 a, .int .i64 t]) (memV ms) i = some none) ∨ ∃ j v, (a, t, v) ∈ ms ∧ findKey (.agg #[.int .i64 a, .int .i64 t]) (memV ms) i = some (some (j, v))
  | [], i => .inl rfl
  | (c, d, v) :: ms, i => by
    have e : memV ((c, d, v) :: ms) = (.agg #[.int .i64 c, .int .i64 d], v) :: memV ms := rfl
    rw [e, findKey_pair]
    by_cases h : a = c ∧ t = d
    · rw [if_pos h]
      obtain ⟨rfl, rfl⟩ := h
      exact .inr ⟨i, v, List.mem_cons_self .., rfl⟩
    · rw [if_neg h]
      rcases memo_find ms (i + 1) with h1 | ⟨j, w, h1, h2⟩
      · exact .inl h1
      · exact .inr ⟨j, w, List.mem_cons_of_mem _ h1, h2⟩

/-- The arrivals from a place and a time. -/
theorem parrive_ok [OB] {lim R M : Nat} {S : List Nat} {pp pl : Option Addr} {P : List Int} {L : List Leg} {cp cl : Nat} {a t : Int} {G : Heap} {Q : Value → Heap → Prop} (h : PI lim R M S G pp pl cp cl P L) (hlim : lim ≤ G.length)
    (hQ : ∀ G' v, Chg [M] G G' → PI lim R M S G' pp pl cp cl P L → MemoOk S G' P L a t v → Q v G') :
    CallR E false lim 118 [.pointer (some ⟨R, 0, none⟩), .int .i64 a, .int .i64 t] G Q := by
  refine runs' (by decide) e118 rfl ?_
  rw [b118, c118]
  obtain ⟨ms, hm, hms⟩ := h.m
  have hml := h.alive
  have rX := fun X => (Ext.refl.app (X := X)).cells h.r
  have mX : ∀ X, hget (G ++ X) M = .map (memV ms) := fun X => by rw [hget_old hml]; exact hm
  have hkey : keyOk (.ints [.i64, .i64]) (.agg #[.int .i64 a, .int .i64 t]) = true := rfl
  rcases memo_find (a := a) (t := t) ms 0 with hf | ⟨j, v, hv, hf⟩
  case inr =>
    simp only [n118, r118, rX, mX, hf, hkey, hlim, setAll_full, SB, Nat.reduceLT, callee, aOp, ne_eq, Nat.reduceEqDiff, aBin, aUn, if_true, if_false, reduceCtorEq, frame0, place, notTuple, Nat.reduceAdd, Nat.reduceLeDiff, resVal, dite_true, dite_false, Int.reduceEq, Int.reduceLT, Int.reduceLE]
    exact hQ _ v (Chg.refl.app) (h.app _) ((hms _ hv).keep fun b ro c _ hb => (Ext.refl.app).cells hb)
  have put : ∀ (G1 : Heap) (v : Value), Chg [] G G1 → MemoOk S G1 P L a t v → ∃ G2, (∀ X : Heap, (G1 ++ X).set M (.map (memV ms ++ [(Value.agg #[.int .i64 a, .int .i64 t], v)])) = G2 ++ X) ∧ ∀ X, Chg [M] G (G2 ++ X) ∧ PI lim R M S (G2 ++ X) pp pl cp cl P L ∧ MemoOk S (G2 ++ X) P L a t v := by
    intro G1 v hC hv
    have hm1 : hget G1 M = .map (memV ms) := hC.get hm hml (by simp)
    obtain ⟨G2, e2, h2, m2⟩ := mut_set (hget_alive' hm1) (.map (memV ms ++ [(Value.agg #[.int .i64 a, .int .i64 t], v)]))
    have hk1 : ∀ b ro c, hget G1 b = .cells ro c → hget G2 b = .cells ro c := fun b ro c hb => m2.cells hb (by rintro rfl; rw [hm1] at hb; cases hb)
    have hk : ∀ b ro c, hget G b = .cells ro c → hget G2 b = .cells ro c := fun b ro c hb => hk1 _ _ _ (hC.cells hb (by simp))
    have hPI : PI lim R M S G2 pp pl cp cl P L := by
      refine ⟨h.net.sim hk, h.op, h.ol, hk _ _ _ h.r, h.oR, h.oM, ⟨ms ++ [(a, t, v)], by rw [h2]; simp [memV], fun x hx => ?_⟩, h.lM, fun j hj => by have := h.sl j hj; have := hC.len; have := m2.len; omega⟩
      rcases List.mem_append.1 hx with hx | hx
      · exact (hms x hx).keep fun b ro c _ => hk b ro c
      · rw [List.mem_singleton] at hx; subst hx; exact hv.keep fun b ro c _ => hk1 b ro c
    exact ⟨G2, e2, fun X => ⟨((hC.mono (fun j _ hj => by simp at hj)).mut m2 (.inl (by simp))).app, hPI.app X, (hv.keep fun b ro c _ => hk1 b ro c).keep fun b ro c _ hb => (Ext.refl.app).cells hb⟩⟩
  simp only [n118, r118, rX, mX, hf, hkey, hlim, setAll_full, SB, Nat.reduceLT, callee, aOp, ne_eq, Nat.reduceEqDiff, aBin, aUn, if_true, if_false, reduceCtorEq, frame0, place, notTuple, Nat.reduceAdd, Nat.reduceLeDiff, resVal, dite_true, dite_false, Int.reduceEq, Int.reduceLT, Int.reduceLE]
  refine Arrive_ok (P := P) (L := L) (cp := cp) (cl := cl) (h.net.app _) (by simp; omega) (fun G1 he hC1 => ?_) (fun G1 q T he hC1 hT hO hTl => ?_)
  · have hC := hC1.pre
    obtain ⟨G2, e2, h2⟩ := put G1 (.slice none 0 0) hC (.inl ⟨he, rfl⟩)
    have hkX := fun X => (Ext.refl.app (X := X)).cells (hC1.cells hget_new0 (by simp))
    have rX1 := fun X => (Ext.refl.app (X := X)).cells (hC.cells h.r (by simp))
    have hm1 : hget G1 M = .map (memV ms) := hC.get hm hml (by simp)
    have mX1 : ∀ X, hget (G1 ++ X) M = .map (memV ms) := fun X => by rw [hget_old (hget_alive' hm1)]; exact hm1
    refine Ret_pad ?_
    simp only [n118, r118, eq_false he, rX1, hkX, mX1, hf, hkey, e2, h.lM, SB, Nat.reduceLT, callee, aOp, ne_eq, Nat.reduceEqDiff, aBin, aUn, if_true, if_false, reduceCtorEq, frame0, place, notTuple, Nat.reduceAdd, Nat.reduceLeDiff, resVal, dite_true, dite_false, Int.reduceEq, Int.reduceLT, Int.reduceLE]
    obtain ⟨k1, k3, k4⟩ := h2 []
    exact hQ _ _ k1 k3 k4
  · have hC := hC1.pre
    obtain ⟨G2, e2, h2⟩ := put G1 (.slice q P.length (loose 1)) hC (.inr ⟨he, q, T, rfl, hO.sl encI_len, hT, fun a ha _ hm => by have h1 := (hO.block ha).1; have h2 := h.sl _ hm; simp at h1; omega⟩)
    have hkX := fun X => (Ext.refl.app (X := X)).cells (hC1.cells hget_new0 (by simp))
    have rX1 := fun X => (Ext.refl.app (X := X)).cells (hC.cells h.r (by simp))
    have hm1 : hget G1 M = .map (memV ms) := hC.get hm hml (by simp)
    have mX1 : ∀ X, hget (G1 ++ X) M = .map (memV ms) := fun X => by rw [hget_old (hget_alive' hm1)]; exact hm1
    refine Ret_pad ?_
    simp only [n118, r118, rX1, hkX, mX1, hf, hkey, e2, h.lM, SB, Nat.reduceLT, callee, aOp, ne_eq, Nat.reduceEqDiff, aBin, aUn, if_true, if_false, reduceCtorEq, frame0, place, notTuple, Nat.reduceAdd, Nat.reduceLeDiff, resVal, dite_true, dite_false, Int.reduceEq, Int.reduceLT, Int.reduceLE]
    obtain ⟨k1, k3, k4⟩ := h2 []
    exact hQ _ _ k1 k3 k4

/-- The place of a number in a list, or -1. -/
theorem pindex_ok [OB] {mp : Bool} {lim c : Nat} {p : Option Addr} {P : List Int} {a : Int} {H : Heap} {Q : Value → Heap → Prop} (hs : Sl H encI 1 p P) (hn : P.length < 2 ^ 63) :
    CallR E mp lim 117 [.slice p P.length c, .int .i64 a] H Q = Q (.int .i64 (placeN P a)) H := by
  refine pc (by decide) e117 rfl rfl ?_
  rw [b117, c117]
  simp only [n117, r117, SB, Nat.reduceLT, callee, aOp, ne_eq, Nat.reduceEqDiff, aBin, aUn, if_true, if_false, reduceCtorEq, frame0, place, notTuple, Nat.reduceAdd, Nat.reduceLeDiff, resVal, dite_true, dite_false, Int.reduceEq, Int.reduceLT, Int.reduceLE]
  refine Ret_rounds (fun j => P.length - j) (fun j fr G => j ≤ P.length ∧ fr 0 = .slice p P.length c ∧ fr 1 = .int .i64 a ∧ fr 7 = .int .i64 (P.length : Int) ∧ fr 8 = .int .i64 (j : Int) ∧ Ext H G ∧ ∀ i, i < j → gt P i ≠ a) 0 ⟨Nat.zero_le _, (by simp only [FB, Nat.reduceEqDiff]), (by simp only [FB, Nat.reduceEqDiff]), (by simp only [FB, Nat.reduceEqDiff]), by rfl, Ext.refl.app, fun i hi => by omega⟩ ?_
  intro j fr G ⟨hj, f0, f1, f7, f8, hE, hall⟩ hN
  rw [Ret_code l117_1.eq_1]
  refine Ret_pad ?_
  by_cases hlt : j < P.length
  case neg =>
    obtain rfl : j = P.length := by omega
    simp only [n117, r117, f0, f1, f7, f8, hlt, SB, Nat.reduceLT, callee, aOp, ne_eq, Nat.reduceEqDiff, aBin, aUn, if_true, if_false, reduceCtorEq, frame0, place, notTuple, Nat.reduceAdd, Nat.reduceLeDiff, resVal, dite_true, dite_false, Int.reduceEq, Int.reduceLT, Int.reduceLE]
    rw [placeN, if_neg fun hm => ?_]
    obtain ⟨i, hi, he⟩ := List.mem_iff_getElem.1 hm
    exact hall i hi (by rw [gt_lt hi]; exact he)
  have hld := fun X => ((hE.sl hs).app X).loadCell0 encI_len hlt (by decide)
  simp only [encI, List.getElem?_cons_zero] at hld
  have hidx := fun c (k : IntKind) (H1 : Heap) => (hE.sl hs).idx (c := c) (k := k) (H1 := H1) hlt
  have hw1 : IntKind.i64.wrap ((j : Int) + 1) = ((j + 1 : Nat) : Int) := wrap_nat (by omega)
  by_cases he : a = gt P j
  · simp only [n117, r117, f0, f1, f7, f8, hlt, hidx, hld, hw1, eq_true he, SB, Nat.reduceLT, callee, aOp, ne_eq, Nat.reduceEqDiff, aBin, aUn, if_true, if_false, reduceCtorEq, frame0, place, notTuple, Nat.reduceAdd, Nat.reduceLeDiff, resVal, dite_true, dite_false, Int.reduceEq, Int.reduceLT, Int.reduceLE]
    have hm : a ∈ P := he ▸ gt_mem hlt
    rw [placeN, if_pos hm]
    congr 1
    have h1 : posN P a ≤ j := by
      unfold posN
      apply Decidable.byContradiction; intro hc
      have := List.not_of_lt_findIdx (xs := P) (p := (· == a)) (i := j) (by unfold List.idxOf at hc; omega)
      rw [gt_lt hlt] at he
      simp [he] at this
    rcases Nat.lt_or_ge (posN P a) j with h3 | h3
    · exfalso
      have hl : posN P a < P.length := List.idxOf_lt_length_of_mem hm
      have := List.getElem_idxOf hl
      refine hall _ h3 ?_
      rw [gt_lt hl]; exact this
    · omega
  · simp only [n117, r117, f0, f1, f7, f8, hlt, hidx, hld, hw1, eq_false he, SB, Nat.reduceLT, callee, aOp, ne_eq, Nat.reduceEqDiff, aBin, aUn, if_true, if_false, reduceCtorEq, frame0, place, notTuple, Nat.reduceAdd, Nat.reduceLeDiff, resVal, dite_true, dite_false, Int.reduceEq, Int.reduceLT, Int.reduceLE]
    exact hN (j + 1) _ _ ⟨by omega, (by simp only [f0, FB, Nat.reduceEqDiff]), (by simp only [f1, FB, Nat.reduceEqDiff]), (by simp only [f7, FB, Nat.reduceEqDiff]), (by simp only [FB, Nat.reduceEqDiff]), hE.app, fun i hi => by
      rcases Nat.lt_or_ge i j with h | h
      · exact hall i h
      · obtain rfl : i = j := by omega
        exact fun hh => he hh.symm⟩ (by omega)
end Go.Proofs.Ytcmhnincbkbncaa.Fn
namespace Go.Proofs.Ytcmhnincbkbncaa.Fn
open Go.AM Go.AM.Sym Go.Net
set_option maxRecDepth 100000
set_option linter.unusedVariables false
set_option linter.unusedSimpArgs false
set_option maxHeartbeats 4000000

theorem price_ok [OB] {lim R M : Nat} {S : List Nat} {pp pl : Option Addr} {P : List Int} {L : List Leg} {cp cl : Nat} {a b : Ev} {G : Heap} {Q : Value → Heap → Prop} (h : PI lim R M S G pp pl cp cl P L) (hlim : lim ≤ G.length) (hb : 0 ≤ b.time ∧ b.time ≤ maxTime)
    (hQ : ∀ G', Chg [M] G G' → PI lim R M S G' pp pl cp cl P L → Q (.int .i64 (priceN P L a b)) G') :
    CallR E false lim 92 [.pointer (some ⟨R, 0, none⟩), .agg (encE a).toArray, .agg (encE b).toArray] G Q := by
  refine runs' (by decide) e92 rfl ?_
  rw [b92, c92]
  have rX := fun X => (Ext.refl.app (X := X)).cells h.r
  unfold maxTime at hb
  have fin : ∀ (n : Int) (X : Heap), priceN P L a b = n → Q (.int .i64 n) (G ++ X) := fun n X e => by
    rw [← e]; exact hQ _ (Chg.refl.app) (h.app _)
  by_cases h1 : a.kind = 4
  · simp only [n92, r92, rX, encE_len, encE_0, encE_1, encE_2, encE_3, encE_4, encE_5, encE_6, hlim, eq_true h1, SB, Nat.reduceLT, callee, aOp, ne_eq, Nat.reduceEqDiff, aBin, aUn, if_true, if_false, reduceCtorEq, frame0, place, notTuple, Nat.reduceAdd, Nat.reduceLeDiff, resVal, dite_true, dite_false, Int.reduceEq, Int.reduceLT, Int.reduceLE]
    exact fin _ _ (by unfold priceN; rw [if_pos h1])
  by_cases h2 : a.place = b.place
  · simp only [n92, r92, rX, encE_len, encE_0, encE_1, encE_2, encE_3, encE_4, encE_5, encE_6, hlim, eq_false h1, eq_true h2, SB, Nat.reduceLT, callee, aOp, ne_eq, Nat.reduceEqDiff, aBin, aUn, if_true, if_false, reduceCtorEq, frame0, place, notTuple, Nat.reduceAdd, Nat.reduceLeDiff, resVal, dite_true, dite_false, Int.reduceEq, Int.reduceLT, Int.reduceLE]
    exact fin _ _ (by unfold priceN; rw [if_neg h1, if_pos h2])
  have hpi := fun X (mp : Bool) (lim : Nat) (Q : Value → Heap → Prop) => pindex_ok (mp := mp) (lim := lim) (c := cp) (a := b.place) (Q := Q) ((h.net.sp).app X) h.net.np
  by_cases h3 : b.place ∈ P
  case neg =>
    have e : placeN P b.place = -1 := if_neg h3
    rw [e] at hpi
    simp only [n92, r92, rX, encE_len, encE_0, encE_1, encE_2, encE_3, encE_4, encE_5, encE_6, hlim, eq_false h1, eq_false h2, hpi, SB, Nat.reduceLT, callee, aOp, ne_eq, Nat.reduceEqDiff, aBin, aUn, if_true, if_false, reduceCtorEq, frame0, place, notTuple, Nat.reduceAdd, Nat.reduceLeDiff, resVal, dite_true, dite_false, Int.reduceEq, Int.reduceLT, Int.reduceLE]
    exact fin _ _ (by unfold priceN; rw [if_neg h1, if_neg h2, if_pos h3])
  have e : placeN P b.place = (posN P b.place : Int) := if_pos h3
  have hpos : posN P b.place < P.length := List.idxOf_lt_length_of_mem h3
  rw [e] at hpi
  have nn : ¬ (posN P b.place : Int) < 0 := by omega
  simp only [n92, r92, rX, encE_len, encE_0, encE_1, encE_2, encE_3, encE_4, encE_5, encE_6, hlim, eq_false h1, eq_false h2, hpi, SB, Nat.reduceLT, callee, aOp, ne_eq, Nat.reduceEqDiff, aBin, aUn, if_true, if_false, reduceCtorEq, frame0, place, notTuple, Nat.reduceAdd, Nat.reduceLeDiff, resVal, dite_true, dite_false, Int.reduceEq, Int.reduceLT, Int.reduceLE]
  refine parrive_ok (h.app _) (by simp; omega) fun G1 v hC hPI hv => ?_
  have hk := (h.app [.cells false (encE a), .cells false (encE b)]).chgk hC
  have hkG : ∀ b ro c, hget G b = .cells ro c → hget G1 b = .cells ro c := fun b ro c hb => hk _ _ _ ((Ext.refl.app).cells hb)
  have hCG := hC.pre
  have hbX := fun X => (Ext.refl.app (X := X)).cells (hk _ _ _ (show hget (G ++ [.cells false (encE a), .cells false (encE b)]) (G.length + 1) = .cells false (encE b) by rw [hget_new]; rfl))
  have fin1 : ∀ (n : Int) (X : Heap), priceN P L a b = n → Q (.int .i64 n) (G1 ++ X) := fun n X e => by
    rw [← e]; exact hQ _ (hCG.app) (hPI.app _)
  rcases hv with ⟨he, rfl⟩ | ⟨he, q, T, rfl, hs, hT, _⟩
  · have hn0 := eq_true (show (0:Int) ≤ (posN P b.place : Int) by omega)
    refine Ret_pad ?_
    simp only [n92, r92, encE_len, encE_0, encE_1, encE_2, encE_3, encE_4, encE_5, encE_6, hbX, hn0, SB, Nat.reduceLT, callee, aOp, ne_eq, Nat.reduceEqDiff, aBin, aUn, if_true, if_false, reduceCtorEq, frame0, place, notTuple, Nat.reduceAdd, Nat.reduceLeDiff, resVal, dite_true, dite_false, Int.reduceEq, Int.reduceLT, Int.reduceLE]
    exact fin1 _ _ (by unfold priceN; rw [if_neg h1, if_neg h2, if_neg (by simpa using h3), if_pos he])
  · obtain ⟨hv, hp, _, ht0, ht1⟩ := errA_0 he
    have hno := valid_net hv
    have hTq := hT.2 _ h3
    rw [← gt_getD (by rw [hT.1]; exact hpos)] at hTq
    have ev := hTq.uniq (arrV_is hno hp h3 ht0)
    have lT := ld_ints (i := posN P b.place) hs (by rw [hT.1]; exact hpos)
    have xT := ix_ints (i := posN P b.place) hs hpos hT.1
    rw [ev] at lT
    have hle := arr_le (arrV_is hno hp h3 ht0) ht1 ht0
    have hpr : priceN P L a b = if arrV P L a.place a.time b.place < 0 then 80 else min (max (arrV P L a.place a.time b.place - b.time) 0) 60 := by
      unfold priceN
      rw [if_neg h1, if_neg h2, if_neg (by simpa using h3), if_neg (by simpa using he)]
    have hge : -1 ≤ arrV P L a.place a.time b.place := by
      rcases arrV_is hno hp h3 ht0 with ⟨e, _⟩ | ⟨⟨⟨j, hw⟩, _⟩, _⟩
      · omega
      · have := hw.later hno.fine; omega
    generalize arrV P L a.place a.time b.place = x at *
    unfold maxTime at hle
    have wx : IntKind.i64.wrap (x - b.time) = x - b.time := wrap_id (by omega) (by omega)
    have hlt : posN P b.place < P.length := hpos
    have hn1 := eq_false (show ¬ P.length ≤ posN P b.place by omega)
    refine Ret_pad ?_
    by_cases hx : x < 0
    · simp only [n92, r92, encE_len, encE_0, encE_1, encE_2, encE_3, encE_4, encE_5, encE_6, hbX, lT, xT, eq_true hx, hlt, hn1, SB, Nat.reduceLT, callee, aOp, ne_eq, Nat.reduceEqDiff, aBin, aUn, if_true, if_false, reduceCtorEq, frame0, place, notTuple, Nat.reduceAdd, Nat.reduceLeDiff, resVal, dite_true, dite_false, Int.reduceEq, Int.reduceLT, Int.reduceLE]
      exact fin1 _ _ (by rw [hpr, if_pos hx])
    · simp only [n92, r92, encE_len, encE_0, encE_1, encE_2, encE_3, encE_4, encE_5, encE_6, hbX, lT, xT, eq_false hx, hlt, hn1, wx, max_v, min_v, SB, Nat.reduceLT, callee, aOp, ne_eq, Nat.reduceEqDiff, aBin, aUn, if_true, if_false, reduceCtorEq, frame0, place, notTuple, Nat.reduceAdd, Nat.reduceLeDiff, resVal, dite_true, dite_false, Int.reduceEq, Int.reduceLT, Int.reduceLE]
      exact fin1 _ _ (by rw [hpr, if_neg hx])
end Go.Proofs.Ytcmhnincbkbncaa.Fn
namespace Go.Proofs.Ytcmhnincbkbncaa.Fn
open Go.AM Go.AM.Sym Go.Net
set_option maxRecDepth 100000
set_option linter.unusedVariables false
set_option linter.unusedSimpArgs false
set_option maxHeartbeats 4000000

theorem newPricer_ok [OB] {lim : Nat} {pp pl : Option Addr} {P : List Int} {L : List Leg} {cp cl : Nat} {H : Heap} {Q : Value → Heap → Prop} (hn : NetIn H pp pl P L) (hlim : lim ≤ H.length)
    (hQ : ∀ G R M, Ext H G → H.length ≤ R → H.length ≤ M → PI lim R M [] G pp pl cp cl P L → Q (.pointer (some ⟨R, 0, none⟩)) G) :
    CallR E false lim 87 [.agg (netV pp P.length cp pl L.length cl).toArray] H Q := by
  refine runs' (by decide) e87 rfl ?_
  rw [b87, c87]
  simp only [n87, r87, netV, take_all, setAll, fillV, SB, Nat.reduceLT, callee, aOp, ne_eq, Nat.reduceEqDiff, aBin, aUn, if_true, if_false, reduceCtorEq, frame0, place, notTuple, Nat.reduceAdd, Nat.reduceLeDiff, resVal, dite_true, dite_false, Int.reduceEq, Int.reduceLT, Int.reduceLE]
  refine hQ _ _ (H.length + 1) Ext.refl.app ?_ (by omega) ⟨hn.app _, (fun _ _ _ hh => by cases hh), (fun _ _ _ hh => by cases hh), ?_, (by simp), (by simp), ⟨[], ?_, fun x hx => by cases hx⟩, (by omega), (fun j hj => by cases hj)⟩
  · omega
  · rw [hget_new]; rfl
  · rw [hget_new]; rfl

/-- A slice of one's own, as far as it is read. -/
def Mine {α : Type} (n : Nat) (G : Heap) (enc : α → List Value) (e : Nat) (q : Option Addr) (l : List α) : Prop := Sl G enc e q l ∧ ∀ a, q = some a → n ≤ a.block
theorem Mine.app {α : Type} {n e : Nat} {G : Heap} {enc : α → List Value} {q : Option Addr} {l : List α} (h : Mine n G enc e q l) (X : Heap) : Mine n (G ++ X) enc e q l := ⟨h.1.app X, h.2⟩
theorem Mine.le {α : Type} {n n' e : Nat} {G : Heap} {enc : α → List Value} {q : Option Addr} {l : List α} (h : Mine n G enc e q l) (hl : n' ≤ n) : Mine n' G enc e q l := ⟨h.1, fun a ha => by have := h.2 a ha; omega⟩
theorem Mine.mut {α : Type} {n e R : Nat} {G G' : Heap} {enc : α → List Value} {q : Option Addr} {l : List α} (h : Mine n G enc e q l) (hm : Mut G G' R) (hR : R < n) : Mine n G' enc e q l :=
  ⟨slSimA h.1 fun a ha hn ro c hc => hm.cells hc (by have := h.2 a ha; omega), h.2⟩
theorem Mine.chg {α : Type} {A : List Nat} {n e : Nat} {G G' : Heap} {enc : α → List Value} {q : Option Addr} {l : List α} (h : Mine n G enc e q l) (hc : Chg A G G') (hA : ∀ j ∈ A, j < n) : Mine n G' enc e q l :=
  ⟨hc.sl h.1 fun a ha _ hj => by have := hA _ hj; have := h.2 a ha; omega, h.2⟩
/-- Something is put behind a slice of one's own: the result lies at the end. -/
def opB (p : Option Addr) : List Nat := match p with
  | none => []
  | some a => [a.block]
theorem Own.moreF {α : Type} {lim lim' e bytes cap : Nat} {G : Heap} {enc : α → List Value} {p : Option Addr} {l : List α} (h : Own lim G enc e p cap l) (hll : lim' ≤ lim) (he : ∀ x, (enc x).length = e) (he0 : e ≠ 0) (m : List α) (hm : m ≠ []) (hb : (l.length + m.length) * bytes ≤ maxBytes) (hn : l.length + m.length < 2 ^ 61)
    (X : Heap) {x : Value} {str : Bool} (h1 : firstCells (G ++ X) e str x = some (m.flatMap enc)) (h2 : lenOf x = some m.length) :
    ∃ G2, aAppend lim' none e bytes str (.slice p l.length cap) x (G ++ X) = some (.slice (some ⟨(G ++ X).length, 0, none⟩) (l.length + m.length) (loose e), G2 ++ []) ∧ Own G.length G2 enc e (some ⟨(G ++ X).length, 0, none⟩) (loose e) (l ++ m) ∧ Chg (opB p) G G2 ∧ (G ++ X).length < G2.length := by
  have hm0 : ¬ m.length = 0 := fun q => hm (List.length_eq_zero_iff.1 q)
  rcases h with ⟨k1, k2, k3⟩ | ⟨R, k1, k2, k3, k4⟩
  · subst k1 k2 k3
    refine ⟨G ++ (X ++ [.cells false (m.flatMap enc)]), ?_, ?_, Chg.refl.app, by simp⟩
    · simp only [List.length_nil, Nat.zero_add] at hb hn ⊢
      simp only [aAppend, h1, h2, hm0, if_false, Nat.zero_add]
      rw [if_neg (by omega)]
      simp [place]
    · rw [List.nil_append]
      refine Own.new ?_ (by simp)
      rw [← List.append_assoc]; exact hget_new0
  · subst k1 k2
    have hRl := hget_alive k3
    have hR' : hget (G ++ X) R = .cells false (l.flatMap enc) := by rw [hget_old hRl]; exact k3
    have hold : AM.loadCells (G ++ X) ⟨R, 0, none⟩ (l.length * e) = some (l.flatMap enc) := by
      simp only [loadCells_lit, hR', Nat.zero_add, flat_len he, Nat.le_refl, if_true, List.drop_zero]
      rw [List.take_of_length_le (by rw [flat_len he]; exact Nat.le_refl _)]
    have hmt : Mut G (G.set R .dead) R := ⟨by simp, fun j hj => hget_set_ne hj⟩
    refine ⟨G.set R .dead ++ (X ++ [.cells false ((l ++ m).flatMap enc)]), ?_, ?_, (Chg.refl.mut hmt (.inl (by simp [opB]))).app, by simp⟩
    · simp only [aAppend, h1, h2, hold, hR', hm0, if_false, if_true]
      rw [if_neg (by unfold loose; omega)]
      simp [show lim' ≤ R by omega, place, List.set_append_left _ _ hRl, List.append_assoc]
    · refine Own.new ?_ (by simp)
      rw [← List.append_assoc, show (G ++ X).length = (G.set R .dead ++ X).length by simp]; exact hget_new0

theorem cloneZ_ok [OB] {lim c : Nat} {p : Option Addr} {l : List Int} {H : Heap} {Q : Value → Heap → Prop} (hs : Sl H encI 1 p l) (hc : p = none → c = 0) (hl : l.length < 2 ^ 40)
    (hQ : ∀ H' q c', Ext H H' → Mine H.length H' encI 1 q l → Q (.slice q l.length c') H') :
    CallR E false lim 63 [.slice p l.length c] H Q := by
  by_cases hn : l = []
  case neg => exact clone_ok hs hn hl fun H' q hE hO => hQ H' q _ hE ⟨hO.sl encI_len, fun a ha => (hO.block ha).1⟩
  subst hn
  refine runs' (by decide) e63 rfl ?_
  rw [b63, c63]
  cases p with
  | none =>
    obtain rfl := hc rfl
    have hneq : aEq .slice (.slice none 0 0) (.slice none 0 0) = some true := rfl
    simp only [n63, r63, hneq, SB, Nat.reduceLT, callee, aOp, ne_eq, Nat.reduceEqDiff, aBin, aUn, if_true, if_false, reduceCtorEq, frame0, place, notTuple, Nat.reduceAdd, Nat.reduceLeDiff, resVal, dite_true, dite_false, Int.reduceEq, Int.reduceLT, Int.reduceLE]
    exact hQ _ none 0 Ext.refl.app ⟨rfl, fun a ha => by cases ha⟩
  | some a =>
    have hneq : aEq .slice (.slice (some a) 0 c) (.slice none 0 0) = some false := rfl
    have hap : ∀ X, aAppend lim none 1 8 false (.slice (some ⟨H.length, 0, none⟩) 0 0) (.slice (some a) 0 c) (H ++ X) = some (.slice (some ⟨H.length, 0, none⟩) 0 0, H ++ X) := fun X => by simp [aAppend, firstCells, lenOf]
    simp only [n63, r63, hneq, hap, SB, Nat.reduceLT, callee, aOp, ne_eq, Nat.reduceEqDiff, aBin, aUn, if_true, if_false, reduceCtorEq, frame0, place, notTuple, Nat.reduceAdd, Nat.reduceLeDiff, resVal, dite_true, dite_false, Int.reduceEq, Int.reduceLT, Int.reduceLE]
    exact hQ _ (some ⟨H.length, 0, none⟩) 0 Ext.refl.app ⟨⟨rfl, fun hh => absurd rfl hh⟩, fun a ha => by cases ha; exact Nat.le_refl _⟩

def stepN (P : List Int) (L : List Leg) (es : List Ev) (ks : List Int) (i : Nat) : Int × Int × Int := (gt ks i, gt ks (i + 1), priceN P L (gt es (gt ks i).toNat) (gt es (gt ks (i + 1)).toNat))
def stepsN (P : List Int) (L : List Leg) (es : List Ev) (ks : List Int) : List (Int × Int × Int) := (List.range (ks.length - 1)).map (stepN P L es ks)
def sumN : List (Int × Int × Int) → Int
  | [] => 0
  | x :: l => x.2.2 + sumN l
def costN (P : List Int) (L : List Leg) (es : List Ev) (ks : List Int) : Int := 30 * ((es.length : Int) - ks.length) + sumN (stepsN P L es ks)
theorem sumN_snoc : ∀ (l : List (Int × Int × Int)) (x : Int × Int × Int), sumN (l ++ [x]) = sumN l + x.2.2
  | [], x => by simp [sumN]
  | y :: l, x => by rw [List.cons_append, sumN, sumN_snoc l x, sumN]; omega
theorem sumN_range {P : List Int} {L : List Leg} {es : List Ev} {ks : List Int} : ∀ (n : Nat), 0 ≤ sumN ((List.range n).map (stepN P L es ks)) ∧ sumN ((List.range n).map (stepN P L es ks)) ≤ 80 * n
  | 0 => by simp [sumN]
  | n + 1 => by
    rw [List.range_succ, List.map_append, List.map_singleton, sumN_snoc]
    have h1 := sumN_range (P := P) (L := L) (es := es) (ks := ks) n
    have h2 := priceN_range (P := P) (L := L) (a := gt es (gt ks n).toNat) (b := gt es (gt ks (n + 1)).toNat)
    have e : (stepN P L es ks n).2.2 = priceN P L (gt es (gt ks n).toNat) (gt es (gt ks (n + 1)).toNat) := rfl
    rw [e]
    omega

theorem path_ok [OB] {lim R M : Nat} {S : List Nat} {pp pl pe pk : Option Addr} {P : List Int} {L : List Leg} {cp cl ce ck : Nat} {es : List Ev} {ks : List Int} {H : Heap} {Q : Value → Heap → Prop} (h : PI lim R M S H pp pl cp cl P L) (hlim : lim ≤ H.length)
    (hs : Sl H encE 7 pe es) (hsl : es.length ≤ 40) (ht : ∀ i, i < es.length → 0 ≤ (gt es i).time ∧ (gt es i).time ≤ maxTime) (hk : Sl H encI 1 pk ks) (hkl : ks.length < 2 ^ 20) (hck : pk = none → ck = 0) (hks : ∀ k ∈ ks, 0 ≤ k ∧ k < es.length)
    (hQ : ∀ G q cq r cr, Chg [M] H G → PI lim R M S G pp pl cp cl P L → Mine H.length G encI 1 q ks → Mine H.length G enc3 3 r (stepsN P L es ks) → Q (.agg #[.slice q ks.length cq, .slice r (stepsN P L es ks).length cr, .int .i64 (costN P L es ks)]) G) :
    CallR E false lim 88 [.pointer (some ⟨R, 0, none⟩), .slice pe es.length ce, .slice pk ks.length ck] H Q := by
  refine runs' (by decide) e88 rfl ?_
  rw [b88, c88]
  have hMl := h.alive
  simp only [n88, r88, SB, Nat.reduceLT, callee, aOp, ne_eq, Nat.reduceEqDiff, aBin, aUn, if_true, if_false, reduceCtorEq, frame0, place, notTuple, Nat.reduceAdd, Nat.reduceLeDiff, resVal, dite_true, dite_false, Int.reduceEq, Int.reduceLT, Int.reduceLE]
  refine cloneZ_ok (hk.app _) hck (by omega) fun H1 q cq hE1 hO1 => ?_
  have w1 : IntKind.i64.wrap ((es.length : Int) - ks.length) = (es.length : Int) - ks.length := wrap_id (by omega) (by omega)
  have w2 : IntKind.i64.wrap (30 * ((es.length : Int) - ks.length)) = 30 * ((es.length : Int) - ks.length) := wrap_id (by omega) (by omega)
  have hl1 := hE1.len
  simp at hl1
  have hlim1 : lim ≤ H1.length := by omega
  have hCE : Chg [M] H H1 := (Ext.chg (A := [M]) hE1).pre
  have hM1 : hget H1 M = hget H M := (Ext.chg (A := []) hE1).pre.other M hMl (by simp)
  have hB6 : hget H1 H.length = .cells false [.slice none 0 0, .slice none 0 0, .int .i64 0] := hE1.cells hget_new0
  have hP0 := (h.grow (b := H.length) [.cells false [.slice none 0 0, .slice none 0 0, .int .i64 0]] (Nat.le_refl _) (by simp)).chg (Ext.chg hE1)
  refine Ret_pad ?_
  simp only [n88, r88, w1, w2, hlim1, SB, Nat.reduceLT, callee, aOp, ne_eq, Nat.reduceEqDiff, aBin, aUn, if_true, if_false, reduceCtorEq, frame0, place, notTuple, Nat.reduceAdd, Nat.reduceLeDiff, resVal, dite_true, dite_false, Int.reduceEq, Int.reduceLT, Int.reduceLE]
  refine Ret_rounds (fun x : Nat × Option Addr × Nat => ks.length - x.1) (fun x fr G => (x.1 = 0 ∨ x.1 + 1 ≤ ks.length) ∧ fr 0 = .pointer (some ⟨R, 0, none⟩) ∧ fr 1 = .slice pe es.length ce ∧ fr 2 = .slice pk ks.length ck ∧ fr 6 = .pointer (some ⟨H.length, 0, none⟩) ∧ fr 7 = .pointer (some ⟨H1.length, 0, none⟩) ∧ fr 8 = .int .i64 ((x.1 + 1 : Nat) : Int) ∧ Chg [M] H G ∧ Chg [M, H1.length] H1 G ∧ PI lim R M (opB x.2.1 ++ H1.length :: H.length :: S) G pp pl cp cl P L ∧
      hget G H1.length = .cells false [.slice q ks.length cq, .slice x.2.1 x.1 x.2.2, .int .i64 (30 * ((es.length : Int) - ks.length) + sumN ((List.range x.1).map (stepN P L es ks)))] ∧ Own (H1.length + 1) G enc3 3 x.2.1 x.2.2 ((List.range x.1).map (stepN P L es ks))) (0, none, 0)
    ⟨.inl rfl, (by simp only [FB, Nat.reduceEqDiff]), (by simp only [FB, Nat.reduceEqDiff]), (by simp only [FB, Nat.reduceEqDiff]), (by simp only [FB, Nat.reduceEqDiff]), by rfl, by rfl, hCE.app, Chg.refl.app, hP0.grow _ (Nat.le_refl _) (by simp), by rw [hget_new0]; simp [sumN], .nil⟩ ?_
  rintro ⟨i, pw, cw⟩ fr G ⟨hi, g0, g1, g2, g6, g7, g8, hC, hC1, hPI, hB, hO⟩ hN
  simp only at hi g8 hPI hB hO
  rw [Ret_code l88_1.eq_1]
  refine Ret_pad ?_
  have hl := hC.len
  have hl2 := hC1.len
  have hBl := hget_alive hB
  have hB6G : hget G H.length = .cells false [.slice none 0 0, .slice none 0 0, .int .i64 0] := hC1.cells hB6 (by simp; omega)
  have hrl : ((List.range i).map (stepN P L es ks)).length = i := by simp
  have hsG := hs.sim (h.chgk hC)
  have hkk := hk.sim (h.chgk hC)
  have hsum := sumN_range (P := P) (L := L) (es := es) (ks := ks) i
  by_cases hlt : i + 1 < ks.length
  case neg =>
    have ei : ks.length - 1 = i := by omega
    have hlt' : ¬ ((i + 1 : Nat) : Int) < (ks.length : Int) := by omega
    have hBX := fun X => (Ext.refl.app (X := X)).cells hB
    have h6X := fun X => (Ext.refl.app (X := X)).cells hB6G
    obtain ⟨G2, e2, h2, m2⟩ := mut_set (hget_alive hB6G) (.cells false [.slice q ks.length cq, .slice pw i cw, .int .i64 (30 * ((es.length : Int) - ks.length) + sumN ((List.range i).map (stepN P L es ks)))])
    have h2X := fun X => (Ext.refl.app (X := X)).cells h2
    simp only [n88, r88, g0, g1, g2, g6, g7, g8, hlt, hBX, h6X, hlim, e2, h2X, SB, Nat.reduceLT, callee, aOp, ne_eq, Nat.reduceEqDiff, aBin, aUn, if_true, if_false, reduceCtorEq, frame0, place, notTuple, Nat.reduceAdd, Nat.reduceLeDiff, resVal, dite_true, dite_false, Int.reduceEq, Int.reduceLT, Int.reduceLE]
    have est : stepsN P L es ks = (List.range i).map (stepN P L es ks) := by unfold stepsN; rw [ei]
    have hC2 : Chg [M] H G2 := hC.mut m2 (.inr (Nat.le_refl _))
    have hPI2 := (hPI.chg (Chg.refl.mut m2 (.inl (by simp)))).sub (S' := S) fun j hj => by simp [hj]
    have hO2 := hO.mut m2 fun a ha e => by have := (hO.block ha).1; omega
    have hq1 : ∀ a, q = some a → H.length < a.block := fun a ha => by have := hO1.2 a ha; simp at this; omega
    have hkq : Mine H.length G2 encI 1 q ks := ⟨slSimA hO1.1 (fun a ha hn ro c hc => m2.cells (hC1.cells hc (by have h1 := hget_alive hc; have h2 := hq1 a ha; simp; omega)) (by have h2 := hq1 a ha; omega)), fun a ha => by have := hq1 a ha; omega⟩
    have := hQ G2 q cq pw cw hC2 hPI2 hkq (by rw [est]; exact ⟨hO2.sl enc3_len, fun a ha => by have := (hO2.block ha).1; omega⟩)
    rw [est, hrl] at this
    unfold costN at this
    rw [est] at this
    rw [List.append_nil]
    exact this
  have l0 := fun X => (hkk.app X).loadCell0 encI_len (i := i) (by omega) (by decide)
  have l1 := fun X => (hkk.app X).loadCell0 encI_len (i := i + 1) hlt (by decide)
  simp only [encI, List.getElem?_cons_zero] at l0 l1
  have x0 := fun c (k : IntKind) (H1 : Heap) => hkk.idx (c := c) (k := k) (H1 := H1) (i := i) (by omega)
  have x1 := fun c (k : IntKind) (H1 : Heap) => hkk.idx (c := c) (k := k) (H1 := H1) (i := i + 1) hlt
  obtain ⟨a, ea⟩ := Int.eq_ofNat_of_zero_le (hks _ (gt_mem (i := i) (by omega))).1
  obtain ⟨b, eb⟩ := Int.eq_ofNat_of_zero_le (hks _ (gt_mem hlt)).1
  have ha : a < es.length := by have := (hks _ (gt_mem (l := ks) (i := i) (by omega))).2; omega
  have hb : b < es.length := by have := (hks _ (gt_mem hlt)).2; omega
  have es1 : stepN P L es ks i = ((a : Int), (b : Int), priceN P L (gt es a) (gt es b)) := by unfold stepN; rw [ea, eb]; rfl
  rw [ea] at l0
  rw [eb] at l1
  have la := fun X => (hsG.app X).loadCells encE_len ha
  have lb := fun X => (hsG.app X).loadCells encE_len hb
  have xa := fun c (k : IntKind) (H1 : Heap) => hsG.idx (c := c) (k := k) (H1 := H1) ha
  have xb := fun c (k : IntKind) (H1 : Heap) => hsG.idx (c := c) (k := k) (H1 := H1) hb
  have w9 : IntKind.i64.wrap (((i + 1 : Nat) : Int) - 1) = (i : Int) := by rw [wrap_id (by omega) (by omega)]; omega
  have hlimG : lim ≤ G.length := by omega
  simp only [n88, r88, g0, g1, g2, g6, g7, g8, hlimG, hlt, w9, l0, l1, x0, x1, la, lb, xa, xb, SB, Nat.reduceLT, callee, aOp, ne_eq, Nat.reduceEqDiff, aBin, aUn, if_true, if_false, reduceCtorEq, frame0, place, notTuple, Nat.reduceAdd, Nat.reduceLeDiff, resVal, dite_true, dite_false, Int.reduceEq, Int.reduceLT, Int.reduceLE]
  refine price_ok (a := gt es a) (hPI.grow [.cells false [.int .i64 (a : Int), .int .i64 (b : Int), .int .i64 0]] (Nat.le_refl _) (by simp)) (by simp; omega) (ht b hb) fun G1 hC3 hPI1 => ?_
  have hk1 := (hPI.grow [.cells false [.int .i64 (a : Int), .int .i64 (b : Int), .int .i64 0]] (Nat.le_refl _) (by simp)).chgk hC3
  have hA1 : hget G1 G.length = .cells false [.int .i64 (a : Int), .int .i64 (b : Int), .int .i64 0] := hk1 _ _ _ hget_new0
  have hB1 := hk1 _ _ _ ((Ext.refl.app).cells hB)
  have hl3 := hC3.len
  simp at hl3
  have hO1' : Own (H1.length + 1) G1 enc3 3 pw cw ((List.range i).map (stepN P L es ks)) := (hO.app _).chg hC3 fun a ha hm => by have := (hO.block ha).1; simp at hm; omega
  generalize hp : priceN P L (gt es a) (gt es b) = p at es1
  have hpr := priceN_range (P := P) (L := L) (a := gt es a) (b := gt es b)
  rw [hp] at hpr
  obtain ⟨G2, e2, h2, m2⟩ := mut_set (hget_alive hA1) (.cells false [.int .i64 (a : Int), .int .i64 (b : Int), .int .i64 p])
  have hB2 := m2.cells hB1 (by omega)
  have hO2 := hO1'.mut m2 fun a ha e => by have := (hO.block ha).2; omega
  have wp : IntKind.i64.wrap (30 * ((es.length : Int) - ks.length) + sumN ((List.range i).map (stepN P L es ks)) + p) = 30 * ((es.length : Int) - ks.length) + sumN ((List.range (i + 1)).map (stepN P L es ks)) := by
    rw [List.range_succ, List.map_append, List.map_singleton, sumN_snoc, es1, ← Int.add_assoc]
    exact wrap_id (by omega) (by omega)
  obtain ⟨G3, e3, h3, m3⟩ := mut_set (hget_alive hB2) (.cells false [.slice q ks.length cq, .slice pw i cw, .int .i64 (30 * ((es.length : Int) - ks.length) + sumN ((List.range (i + 1)).map (stepN P L es ks)))])
  have hO3 := hO2.mut m3 fun a ha e => by have := (hO.block ha).1; omega
  have hA3 := m3.cells h2 (by omega)
  have hl12 := m2.len
  have hl13 := m3.len
  obtain ⟨G4, e4, O4, C4, hl4⟩ := Own.moreF hO3 (lim' := lim) (bytes := 24) (by omega) enc3_len (by decide) [((a : Int), (b : Int), p)] (by simp) (by rw [hrl]; unfold maxBytes; simp; omega) (by rw [hrl]; simp; omega) [.cells false [.int .i64 (a : Int), .int .i64 (b : Int), .int .i64 p]] (x := .slice (some ⟨G3.length, 0, none⟩) 1 1) (str := false)
    (first_slice (m := [((a : Int), (b : Int), p)]) (Sl.row (ro := false) enc3_len (by rw [hget_new0]; rfl))) rfl
  rw [hrl] at e4
  have eN : (List.range i).map (stepN P L es ks) ++ [((a : Int), (b : Int), p)] = (List.range (i + 1)).map (stepN P L es ks) := by rw [List.range_succ, List.map_append, List.map_singleton, es1]
  rw [eN] at O4
  have hpw : ∀ j, j ∈ opB pw → H1.length + 1 ≤ j ∧ j < G.length := fun j hj => by
    cases hpe : pw with
    | none => rw [hpe] at hj; cases hj
    | some a => rw [hpe] at hj; have := hO.block hpe; simp [opB] at hj; omega
  generalize hp' : (G3 ++ [Blk.cells false [.int .i64 (a : Int), .int .i64 (b : Int), .int .i64 p]]).length = r at e4 O4 hl4
  have hr' : G3.length ≤ r := by rw [← hp']; simp
  generalize loose 3 = c' at e4 O4
  simp only [List.length_cons, List.length_nil, Nat.zero_add] at e4
  have hB4 := C4.cells h3 fun hm => by have := hpw _ hm; omega
  obtain ⟨G5, e5, h5, m5⟩ := mut_set (hget_alive hB4) (.cells false [.slice q ks.length cq, .slice (some ⟨r, 0, none⟩) (i + 1) c', .int .i64 (30 * ((es.length : Int) - ks.length) + sumN ((List.range (i + 1)).map (stepN P L es ks)))])
  have X1 := fun X => (Ext.refl.app (X := X)).cells hA1
  have X2 := fun X => (Ext.refl.app (X := X)).cells hB2
  have X3 := fun X => (Ext.refl.app (X := X)).cells h2
  have X4 := fun X => (Ext.refl.app (X := X)).cells h3
  have X5 := fun X => (Ext.refl.app (X := X)).cells hA3
  have X6 := fun X => (Ext.refl.app (X := X)).cells hB4
  have w10 : IntKind.i64.wrap (((i + 1 : Nat) : Int) + 1) = ((i + 2 : Nat) : Int) := wrap_nat (by omega)
  have hlimH : lim ≤ H1.length := hlim1
  refine Ret_pad ?_
  simp only [n88, r88, g0, g1, g2, g6, g7, g8, hlimG, hlimH, X1, e2, X2, X3, e3, X4, X5, X6, e4, e5, wp, w10, SB, Nat.reduceLT, callee, aOp, ne_eq, Nat.reduceEqDiff, aBin, aUn, if_true, if_false, reduceCtorEq, frame0, place, notTuple, Nat.reduceAdd, Nat.reduceLeDiff, resVal, dite_true, dite_false, Int.reduceEq, Int.reduceLT, Int.reduceLE]
  have k1 : Chg [M] H G3 := ((hC.trans hC3.pre).mut m2 (.inr (by omega))).mut m3 (.inr (by omega))
  have k2 : Chg [M] H G5 := (k1.trans' C4 fun j hj hjl => by have := hpw j hj; omega).mut m5 (.inr (by omega))
  have k3 : Chg [M, H1.length] H1 G3 := ((hC1.trans (hC3.pre.mono fun j _ hj => by simp at hj; simp [hj])).mut m2 (.inr (by omega))).mut m3 (.inl (by simp))
  have k4 : Chg [M, H1.length] H1 G5 := (k3.trans' C4 fun j hj hjl => by have := hpw j hj; omega).mut m5 (.inl (by simp))
  have k5 := hPI1.chg ((Chg.refl.mut m2 (.inl (by simp))).mut m3 (.inl (by simp)))
  have k6 := k5.growC (b := r) (G' := G4) (C4.mono fun j _ hj => by simp [hj]) hr' hl4
  have k7 := (k6.chg (Chg.refl.mut m5 (.inl (by simp)))).sub (S' := opB (some ⟨r, 0, none⟩) ++ H1.length :: H.length :: S) fun j hj => by
    simp [opB] at hj
    rcases hj with e | e | e | e
    · simp [e]
    · simp [e]
    · simp [e]
    · simp [e]
  have k8 := (O4.mut m5 fun a ha e => by cases ha; simp at e; omega).le (lim' := H1.length + 1) (by omega)
  exact hN (i + 1, some ⟨r, 0, none⟩, c') _ _ ⟨.inr hlt, (by simp only [g0, FB, Nat.reduceEqDiff]), (by simp only [g1, FB, Nat.reduceEqDiff]), (by simp only [g2, FB, Nat.reduceEqDiff]), (by simp only [g6, FB, Nat.reduceEqDiff]), (by simp only [g7, FB, Nat.reduceEqDiff]), by rfl, k2.app, k4.app, k7.app _, (Ext.refl.app).cells h5, k8.app _⟩ (by show ks.length - (i + 1) < ks.length - i; omega)
end Go.Proofs.Ytcmhnincbkbncaa.Fn
namespace Go.Proofs.Ytcmhnincbkbncaa.Fn
open Go.AM Go.AM.Sym Go.Net
set_option maxRecDepth 100000
set_option linter.unusedVariables false
set_option linter.unusedSimpArgs false
set_option maxHeartbeats 4000000

theorem PI.lower {lim lim' R M : Nat} {S : List Nat} {G : Heap} {pp pl : Option Addr} {cp cl : Nat} {P : List Int} {L : List Leg} (h : PI lim R M S G pp pl cp cl P L) (hl : lim' ≤ lim) : PI lim' R M S G pp pl cp cl P L :=
  ⟨h.net, h.op, h.ol, h.r, h.oR, h.oM, h.m, Nat.le_trans hl h.lM, h.sl⟩
theorem fill2 (a b : Ev) : fillV 7 7 (.agg (encE b).toArray) (setAll [.int .i64 0, .int .i64 0, .int .i64 0, .int .u8 0, .int .i64 0, .int .i64 0, .int .i64 0, .int .i64 0, .int .i64 0, .int .i64 0, .int .u8 0, .int .i64 0, .int .i64 0, .int .i64 0] 0 (encE a)) = some (encE a ++ encE b) := rfl
theorem Price_ok [OB] {mp : Bool} {lim : Nat} {pp pl : Option Addr} {P : List Int} {L : List Leg} {cp cl : Nat} {a b : Ev} {H : Heap} {Q : Value → Heap → Prop} (hn : NetIn H pp pl P L) :
    CallR E mp lim 45 [.agg (netV pp P.length cp pl L.length cl).toArray, .agg (encE a).toArray, .agg (encE b).toArray] H Q = Q (.tuple #[.int .i64 (if errI P L [a, b] = 0 then priceN P L a b else 0), .int .i64 (errI P L [a, b])]) H := by
  refine pc (by decide) e45 rfl rfl ?_
  rw [b45, c45]
  have hck : ∀ (X : Heap) (mp : Bool) (lim : Nat) (Q : Value → Heap → Prop), CallR E mp lim 86 [.agg (netV pp P.length cp pl L.length cl).toArray, .slice (some ⟨H.length + 3, 0, none⟩) 2 2] (H ++ .cells false (netV pp P.length cp pl L.length cl) :: .cells false (encE a) :: .cells false (encE b) :: .cells false (encE a ++ encE b) :: X) Q = Q (.int .i64 (errI P L [a, b])) (H ++ .cells false (netV pp P.length cp pl L.length cl) :: .cells false (encE a) :: .cells false (encE b) :: .cells false (encE a ++ encE b) :: X) :=
    fun X mp lim Q => check_ok (ce := 2) (es := [a, b]) (hn.app _) (Sl.row (R := H.length + 3) (l := [a, b]) (ro := false) encE_len (by rw [hget_new]; rfl)) (show (2 : Nat) < 2 ^ 63 by decide)
  by_cases h0 : errI P L [a, b] = 0
  case neg =>
    simp only [n45, r45, netV_len, netV_0, netV_1, encE_len, encE_0, encE_1, encE_2, encE_3, encE_4, encE_5, encE_6, take_all, fill2, hck, eq_false h0, SB, Nat.reduceLT, callee, aOp, ne_eq, Nat.reduceEqDiff, aBin, aUn, if_true, if_false, reduceCtorEq, frame0, place, notTuple, Nat.reduceAdd, Nat.reduceLeDiff, resVal, dite_true, dite_false, Int.reduceEq, Int.reduceLT, Int.reduceLE]
  have hb := ((errI_0 h0).2.2 1 (show 1 < 2 by decide)).2
  simp only [n45, r45, netV_len, netV_0, netV_1, encE_len, encE_0, encE_1, encE_2, encE_3, encE_4, encE_5, encE_6, take_all, fill2, hck, eq_true h0, SB, Nat.reduceLT, callee, aOp, ne_eq, Nat.reduceEqDiff, aBin, aUn, if_true, if_false, reduceCtorEq, frame0, place, notTuple, Nat.reduceAdd, Nat.reduceLeDiff, resVal, dite_true, dite_false, Int.reduceEq, Int.reduceLT, Int.reduceLE]
  refine newPricer_ok (hn.app _) (by simp) fun G R M hE hR hM hPI => ?_
  have e4 := fun X => (Ext.refl.app (X := X)).cells (hE.cells (show hget _ (H.length + 1) = .cells false (encE a) by rw [hget_new]; rfl))
  have e5 := fun X => (Ext.refl.app (X := X)).cells (hE.cells (show hget _ (H.length + 2) = .cells false (encE b) by rw [hget_new]; rfl))
  have hl := hE.len
  simp at hl
  refine Ret_pad ?_
  simp only [n45, r45, encE_len, encE_0, encE_1, encE_2, encE_3, encE_4, encE_5, encE_6, e4, e5, take_all, eq_true h0, SB, Nat.reduceLT, callee, aOp, ne_eq, Nat.reduceEqDiff, aBin, aUn, if_true, if_false, reduceCtorEq, frame0, place, notTuple, Nat.reduceAdd, Nat.reduceLeDiff, resVal, dite_true, dite_false, Int.reduceEq, Int.reduceLT, Int.reduceLE]
  refine price_ok (a := a) (b := b) ((hPI.lower (lim' := H.length) (by simp)).app _) (by simp; omega) ⟨hb.1, hb.2.1⟩ fun G1 _ _ => ?_
  refine Ret_pad ?_
  simp only [n45, r45, eq_true h0, SB, Nat.reduceLT, callee, aOp, ne_eq, Nat.reduceEqDiff, aBin, aUn, if_true, if_false, reduceCtorEq, frame0, place, notTuple, Nat.reduceAdd, Nat.reduceLeDiff, resVal, dite_true, dite_false, Int.reduceEq, Int.reduceLT, Int.reduceLE]
  rw [h0]
end Go.Proofs.Ytcmhnincbkbncaa.Fn
namespace Go.Proofs.Ytcmhnincbkbncaa.Fn
open Go.AM Go.AM.Sym Go.Net
set_option maxRecDepth 100000
set_option linter.unusedVariables false
set_option linter.unusedSimpArgs false
set_option maxHeartbeats 4000000

def ascOk (n : Nat) (ks : List Int) (i : Nat) : Prop := 0 ≤ gt ks i ∧ gt ks i < n ∧ (0 < i → gt ks (i - 1) < gt ks i)
instance (n : Nat) (ks : List Int) (i : Nat) : Decidable (ascOk n ks i) := by unfold ascOk; infer_instance
/-- Are these indices of n events? -/
def KsOk (n : Nat) (ks : List Int) : Prop := (ks.length = 0 → n = 0) ∧ ∀ i, i < ks.length → ascOk n ks i
instance (n : Nat) (ks : List Int) : Decidable (KsOk n ks) := by unfold KsOk; infer_instance
def errC (P : List Int) (L : List Leg) (es : List Ev) (ks : List Int) : Int := if errI P L es ≠ 0 then errI P L es else if KsOk es.length ks then 0 else 2
theorem asc_ge {n : Nat} {ks : List Int} (h : ∀ i, i < ks.length → ascOk n ks i) : ∀ i, i < ks.length → (i : Int) ≤ gt ks i
  | 0, hi => (h 0 hi).1
  | i + 1, hi => by
    have h1 := asc_ge h i (by omega)
    have h2 := (h (i + 1) hi).2.2 (by omega)
    rw [Nat.add_sub_cancel] at h2
    omega
theorem asc_len {n : Nat} {ks : List Int} (h : ∀ i, i < ks.length → ascOk n ks i) : ks.length ≤ n := by
  apply Decidable.byContradiction; intro hc
  have h1 := asc_ge h (ks.length - 1) (by omega)
  have h2 := (h (ks.length - 1) (by omega)).2.1
  omega
theorem KsOk.mem {n : Nat} {ks : List Int} (h : KsOk n ks) : ∀ k ∈ ks, 0 ≤ k ∧ k < n := fun k hk => by
  obtain ⟨i, hi, rfl⟩ := List.mem_iff_getElem.1 hk
  have := h.2 i hi
  rw [← gt_lt hi]
  exact ⟨this.1, this.2.1⟩

theorem Cost_ok [OB] {lim : Nat} {pp pl pe pk : Option Addr} {P : List Int} {L : List Leg} {cp cl ce ck : Nat} {es : List Ev} {ks : List Int} {H : Heap} {Q : Value → Heap → Prop} (hn : NetIn H pp pl P L) (hlim : lim ≤ H.length)
    (hs : Sl H encE 7 pe es) (hsl : es.length < 2 ^ 62) (hk : Sl H encI 1 pk ks) (hkl : ks.length < 2 ^ 62) (hck : pk = none → ck = 0)
    (hbad : ∀ G, errC P L es ks ≠ 0 → Chg [] H G → Q (.tuple #[.agg #[.slice none 0 0, .slice none 0 0, .int .i64 0], .int .i64 (errC P L es ks)]) G)
    (hok : ∀ G q cq r cr, errC P L es ks = 0 → Chg [] H G → Mine H.length G encI 1 q ks → Mine H.length G enc3 3 r (stepsN P L es ks) → Q (.tuple #[.agg #[.slice q ks.length cq, .slice r (stepsN P L es ks).length cr, .int .i64 (costN P L es ks)], .int .i64 0]) G) :
    CallR E false lim 42 [.agg (netV pp P.length cp pl L.length cl).toArray, .slice pe es.length ce, .slice pk ks.length ck] H Q := by
  refine runs' (by decide) e42 rfl ?_
  rw [b42, c42]
  have hck' := fun X (mp : Bool) (lim : Nat) (Q : Value → Heap → Prop) => check_ok (mp := mp) (lim := lim) (cp := cp) (cl := cl) (ce := ce) (Q := Q) (hn.app X) (hs.app X) (by omega)
  by_cases h0 : errI P L es = 0
  case neg =>
    have e : errC P L es ks = errI P L es := by unfold errC; rw [if_pos h0]
    simp only [n42, r42, netV_len, netV_0, netV_1, take_all, hck', eq_false h0, hlim, SB, Nat.reduceLT, callee, aOp, ne_eq, Nat.reduceEqDiff, aBin, aUn, if_true, if_false, reduceCtorEq, frame0, place, notTuple, Nat.reduceAdd, Nat.reduceLeDiff, resVal, dite_true, dite_false, Int.reduceEq, Int.reduceLT, Int.reduceLE]
    rw [← e]
    exact hbad _ (by rw [e]; exact h0) Chg.refl.app
  have e2 : errC P L es ks = if KsOk es.length ks then 0 else 2 := by unfold errC; rw [if_neg (by simpa using h0)]
  have bad : ∀ G, ¬ KsOk es.length ks → Chg [] H G → Q (.tuple #[.agg #[.slice none 0 0, .slice none 0 0, .int .i64 0], .int .i64 2]) G := fun G hb hC => by
    rw [if_neg hb] at e2
    have := hbad G (by rw [e2]; decide) hC
    rw [e2] at this
    exact this
  obtain ⟨hv0, h40, hev⟩ := errI_0 h0
  by_cases hz : ks.length = 0
  case' pos =>
    by_cases hz2 : 0 < es.length
    case pos =>
      simp only [n42, r42, netV_len, netV_0, netV_1, take_all, hck', eq_true h0, hlim, eq_true (show (ks.length : Int) = 0 by omega), eq_true hz2, eq_true (show (0 : Int) < (es.length : Int) by omega), SB, Nat.reduceLT, callee, aOp, ne_eq, Nat.reduceEqDiff, aBin, aUn, if_true, if_false, reduceCtorEq, frame0, place, notTuple, Nat.reduceAdd, Nat.reduceLeDiff, resVal, dite_true, dite_false, Int.reduceEq, Int.reduceLT, Int.reduceLE]
      exact bad _ (fun hh => by have := hh.1 hz; omega) Chg.refl.app
    simp only [n42, r42, netV_len, netV_0, netV_1, take_all, hck', eq_true h0, hlim, eq_true (show (ks.length : Int) = 0 by omega), eq_false hz2, eq_false (show ¬ (0 : Int) < (es.length : Int) by omega), SB, Nat.reduceLT, callee, aOp, ne_eq, Nat.reduceEqDiff, aBin, aUn, if_true, if_false, reduceCtorEq, frame0, place, notTuple, Nat.reduceAdd, Nat.reduceLeDiff, resVal, dite_true, dite_false, Int.reduceEq, Int.reduceLT, Int.reduceLE]
    have hzz : ks.length = 0 → es.length = 0 := fun _ => by omega
  case' neg =>
    simp only [n42, r42, netV_len, netV_0, netV_1, take_all, hck', eq_true h0, hlim, eq_false (show ¬ (ks.length : Int) = 0 by omega), SB, Nat.reduceLT, callee, aOp, ne_eq, Nat.reduceEqDiff, aBin, aUn, if_true, if_false, reduceCtorEq, frame0, place, notTuple, Nat.reduceAdd, Nat.reduceLeDiff, resVal, dite_true, dite_false, Int.reduceEq, Int.reduceLT, Int.reduceLE]
    have hzz : ks.length = 0 → es.length = 0 := fun hh => absurd hh hz
  all_goals
    refine Ret_rounds (fun i => ks.length - i) (fun i fr G => i ≤ ks.length ∧ fr 1 = .slice pe es.length ce ∧ fr 2 = .slice pk ks.length ck ∧ fr 3 = .pointer (some ⟨H.length, 0, none⟩) ∧ fr 6 = .pointer (some ⟨H.length + 1, 0, none⟩) ∧ fr 7 = .int .i64 0 ∧ fr 27 = .slice pk ks.length ck ∧ fr 28 = .int .i64 (ks.length : Int) ∧ fr 29 = .int .i64 (i : Int) ∧ Ext (H ++ [.cells false (netV pp P.length cp pl L.length cl), .cells false [.slice none 0 0, .slice none 0 0, .int .i64 0]]) G ∧ ∀ j, j < i → ascOk es.length ks j) 0
      ⟨Nat.zero_le _, (by simp only [FB, Nat.reduceEqDiff]), (by simp only [FB, Nat.reduceEqDiff]), (by simp only [FB, Nat.reduceEqDiff]), (by simp only [FB, Nat.reduceEqDiff]), (by simp only [FB, Nat.reduceEqDiff]), (by simp only [FB, Nat.reduceEqDiff]), (by simp only [FB, Nat.reduceEqDiff]), by rfl, Ext.refl, fun j hj => by omega⟩ ?_
    intro i fr G ⟨hi, g1, g2, g3, g6, g7, g27, g28, g29, hE, hall⟩ hN
    rw [Ret_code l42_1.eq_1]
    refine Ret_pad ?_
    have hl := hE.len
    simp at hl
    have hEH : Ext H G := (Ext.refl.app).trans hE
    have rB := fun X => (Ext.refl.app (X := X)).cells (hE.cells (show hget _ H.length = .cells false (netV pp P.length cp pl L.length cl) by rw [hget_new0]; rfl))
    have r6 := hE.cells (show hget _ (H.length + 1) = .cells false [.slice none 0 0, .slice none 0 0, .int .i64 0] by rw [hget_new]; rfl)
    have hlimG : lim ≤ H.length + 1 := by omega
    by_cases hlt : i < ks.length
    case neg =>
      obtain rfl : i = ks.length := by omega
      have hks : KsOk es.length ks := ⟨hzz, hall⟩
      rw [if_pos hks] at e2
      have hkl := asc_len hall
      simp only [n42, r42, g1, g2, g3, g6, g7, g27, g28, g29, hlt, netV_len, netV_0, netV_1, rB, take_all, SB, Nat.reduceLT, callee, aOp, ne_eq, Nat.reduceEqDiff, aBin, aUn, if_true, if_false, reduceCtorEq, frame0, place, notTuple, Nat.reduceAdd, Nat.reduceLeDiff, resVal, dite_true, dite_false, Int.reduceEq, Int.reduceLT, Int.reduceLE]
      refine newPricer_ok (lim := lim) (hn.ext (hEH.app)) (by simp; omega) fun G1 R M hE1 hR hM hPI => ?_
      have hl1 := hE1.len
      simp at hl1
      rw [List.append_nil] at hM hR
      have hE1H := hEH.app.trans hE1
      refine Ret_pad ?_
      simp only [n42, r42, g1, g2, g3, g6, g7, SB, Nat.reduceLT, callee, aOp, ne_eq, Nat.reduceEqDiff, aBin, aUn, if_true, if_false, reduceCtorEq, frame0, place, notTuple, Nat.reduceAdd, Nat.reduceLeDiff, resVal, dite_true, dite_false, Int.reduceEq, Int.reduceLT, Int.reduceLE]
      refine path_ok (hPI.app _) (by simp; omega) ((hE1H.sl hs).app _) h40 (fun i hi => ⟨(hev i hi).2.1, (hev i hi).2.2.1⟩) ((hE1H.sl hk).app _) (by omega) hck hks.mem fun G2 q cq r cr hC2 hPI2 hq hr => ?_
      have r6' := hC2.cells (show hget (G1 ++ []) (H.length + 1) = _ from (Ext.refl.app).cells (hE1.cells ((Ext.refl.app).cells r6))) (by simp; omega)
      obtain ⟨G3, e3, h3, m3⟩ := mut_set (hget_alive r6') (.cells false [.slice q ks.length cq, .slice r (stepsN P L es ks).length cr, .int .i64 (costN P L es ks)])
      have x6 := fun X => (Ext.refl.app (X := X)).cells r6'
      have x7 := fun X => (Ext.refl.app (X := X)).cells h3
      refine Ret_pad ?_
      simp only [n42, r42, g1, g2, g3, g6, g7, x6, e3, x7, hlimG, SB, Nat.reduceLT, callee, aOp, ne_eq, Nat.reduceEqDiff, aBin, aUn, if_true, if_false, reduceCtorEq, frame0, place, notTuple, Nat.reduceAdd, Nat.reduceLeDiff, resVal, dite_true, dite_false, Int.reduceEq, Int.reduceLT, Int.reduceLE]
      exact hok _ q cq r cr e2 (((Ext.chg (A := []) (hE1H.app (X := []))).trans' hC2 fun j hj hjl => by simp at hj; omega).mut m3 (.inr (by omega))).app (((hq.mut m3 (by simp; omega)).le (by simp; omega)).app _) (((hr.mut m3 (by simp; omega)).le (by simp; omega)).app _)
    have ld := fun X => ((hEH.sl hk).app X).loadCell0 encI_len hlt (by decide)
    simp only [encI, List.getElem?_cons_zero] at ld
    have ix := fun c (k : IntKind) (H1 : Heap) => (hEH.sl hk).idx (c := c) (k := k) (H1 := H1) hlt
    have hw1 : IntKind.i64.wrap ((i : Int) + 1) = ((i + 1 : Nat) : Int) := wrap_nat (by omega)
    have nok : ¬ ascOk es.length ks i → ¬ KsOk es.length ks := fun h hh => h (hh.2 i hlt)
    have x6 := fun X => (Ext.refl.app (X := X)).cells r6
    obtain ⟨G3, e3, h3, m3⟩ := mut_set (hget_alive r6) (.cells false [.slice none 0 0, .slice none 0 0, .int .i64 0])
    have x7 := fun X => (Ext.refl.app (X := X)).cells h3
    have hC3 : Chg [] H (G3 ++ []) := ((Ext.chg hEH).mut m3 (.inr (by omega))).app
    by_cases c1 : gt ks i < 0
    · simp only [n42, r42, g1, g2, g3, g6, g7, g27, g28, g29, hlt, ld, ix, x6, e3, x7, hlimG, eq_true c1, SB, Nat.reduceLT, callee, aOp, ne_eq, Nat.reduceEqDiff, aBin, aUn, if_true, if_false, reduceCtorEq, frame0, place, notTuple, Nat.reduceAdd, Nat.reduceLeDiff, resVal, dite_true, dite_false, Int.reduceEq, Int.reduceLT, Int.reduceLE]
      exact bad _ (nok fun h => by have := h.1; omega) hC3
    by_cases c2 : (es.length : Int) ≤ gt ks i
    · simp only [n42, r42, g1, g2, g3, g6, g7, g27, g28, g29, hlt, ld, ix, x6, e3, x7, hlimG, eq_false c1, eq_true c2, SB, Nat.reduceLT, callee, aOp, ne_eq, Nat.reduceEqDiff, aBin, aUn, if_true, if_false, reduceCtorEq, frame0, place, notTuple, Nat.reduceAdd, Nat.reduceLeDiff, resVal, dite_true, dite_false, Int.reduceEq, Int.reduceLT, Int.reduceLE]
      exact bad _ (nok fun h => by have := h.2.1; omega) hC3
    by_cases c3 : 0 < i
    case neg =>
      obtain rfl : i = 0 := by omega
      simp only [Int.cast_ofNat_Int] at ix
      simp only [n42, r42, g1, g2, g3, g6, g7, g27, g28, g29, hlt, ld, ix, x6, e3, x7, hlimG, eq_false c1, eq_false c2, show IntKind.i64.wrap (0 + 1) = 1 by decide, SB, Nat.reduceLT, callee, aOp, ne_eq, Nat.reduceEqDiff, aBin, aUn, if_true, if_false, reduceCtorEq, frame0, place, notTuple, Nat.reduceAdd, Nat.reduceLeDiff, resVal, dite_true, dite_false, Int.reduceEq, Int.reduceLT, Int.reduceLE]
      exact hN 1 _ _ ⟨by omega, (by simp only [g1, FB, Nat.reduceEqDiff]), (by simp only [g2, FB, Nat.reduceEqDiff]), (by simp only [g3, FB, Nat.reduceEqDiff]), (by simp only [g6, FB, Nat.reduceEqDiff]), (by simp only [g7, FB, Nat.reduceEqDiff]), (by simp only [g27, FB, Nat.reduceEqDiff]), (by simp only [g28, FB, Nat.reduceEqDiff]), by rfl, hE.app, fun j hj => by
        obtain rfl : j = 0 := by omega
        exact ⟨by omega, by omega, fun h => by omega⟩⟩ (by omega)
    obtain ⟨k, rfl⟩ : ∃ k, i = k + 1 := ⟨i - 1, by omega⟩
    have lk := fun X => ((hEH.sl hk).app X).loadCell0 encI_len (i := k) (by omega) (by decide)
    simp only [encI, List.getElem?_cons_zero] at lk
    have ik := fun c (kk : IntKind) (H1 : Heap) => (hEH.sl hk).idx (c := c) (k := kk) (H1 := H1) (i := k) (by omega)
    have wk : IntKind.i64.wrap (((k + 1 : Nat) : Int) - 1) = (k : Int) := by rw [wrap_id (by omega) (by omega)]; omega
    by_cases c4 : gt ks (k + 1) ≤ gt ks k
    · simp only [n42, r42, g1, g2, g3, g6, g7, g27, g28, g29, hlt, ld, ix, x6, e3, x7, hlimG, eq_false c1, eq_false c2, eq_true c3, lk, ik, wk, eq_true c4, SB, Nat.reduceLT, callee, aOp, ne_eq, Nat.reduceEqDiff, aBin, aUn, if_true, if_false, reduceCtorEq, frame0, place, notTuple, Nat.reduceAdd, Nat.reduceLeDiff, resVal, dite_true, dite_false, Int.reduceEq, Int.reduceLT, Int.reduceLE]
      exact bad _ (nok fun h => by have := h.2.2 c3; rw [Nat.add_sub_cancel] at this; omega) hC3
    simp only [n42, r42, g1, g2, g3, g6, g7, g27, g28, g29, hlt, ld, ix, x6, e3, x7, hlimG, eq_false c1, eq_false c2, eq_true c3, lk, ik, wk, eq_false c4, hw1, SB, Nat.reduceLT, callee, aOp, ne_eq, Nat.reduceEqDiff, aBin, aUn, if_true, if_false, reduceCtorEq, frame0, place, notTuple, Nat.reduceAdd, Nat.reduceLeDiff, resVal, dite_true, dite_false, Int.reduceEq, Int.reduceLT, Int.reduceLE]
    exact hN (k + 2) _ _ ⟨by omega, (by simp only [g1, FB, Nat.reduceEqDiff]), (by simp only [g2, FB, Nat.reduceEqDiff]), (by simp only [g3, FB, Nat.reduceEqDiff]), (by simp only [g6, FB, Nat.reduceEqDiff]), (by simp only [g7, FB, Nat.reduceEqDiff]), (by simp only [g27, FB, Nat.reduceEqDiff]), (by simp only [g28, FB, Nat.reduceEqDiff]), (by simp only [FB, Nat.reduceEqDiff]), hE.app, fun j hj => by
      rcases Nat.lt_or_ge j (k + 1) with h | h
      · exact hall j h
      · obtain rfl : j = k + 1 := by omega
        exact ⟨by omega, by omega, fun _ => by rw [Nat.add_sub_cancel]; omega⟩⟩ (by omega)
end Go.Proofs.Ytcmhnincbkbncaa.Fn
namespace Go.Proofs.Ytcmhnincbkbncaa.Fn
open Go.AM Go.AM.Sym Go.Net
set_option maxRecDepth 100000
set_option linter.unusedVariables false
set_option linter.unusedSimpArgs false
set_option maxHeartbeats 4000000

abbrev Tri := Int × Int × Int
def lessR (x y : Tri) : Bool := decide (x.1 < y.1 ∨ (x.1 = y.1 ∧ y.2.1 < x.2.1))
theorem less_ok [OB] {mp : Bool} {lim : Nat} {x y : Tri} {H : Heap} {Q : Value → Heap → Prop} : CallR E mp lim 115 [.agg (enc3 x).toArray, .agg (enc3 y).toArray] H Q = Q (.bool (lessR x y)) H := by
  refine pc (by decide) e115 rfl rfl ?_
  rw [b115, c115]
  obtain ⟨a, b, c⟩ := x
  obtain ⟨a', b', c'⟩ := y
  have e0 : lessR (a, b, c) (a', b', c') = decide (a < a' ∨ (a = a' ∧ b' < b)) := rfl
  rw [e0]
  by_cases h1 : a < a'
  · have e := decide_eq_true (show a < a' ∨ (a = a' ∧ b' < b) from .inl h1)
    rw [e]
    simp only [n115, r115, enc3, eq_true h1, SB, Nat.reduceLT, callee, aOp, ne_eq, Nat.reduceEqDiff, aBin, aUn, if_true, if_false, reduceCtorEq, frame0, place, notTuple, Nat.reduceAdd, Nat.reduceLeDiff, resVal, dite_true, dite_false, Int.reduceEq, Int.reduceLT, Int.reduceLE]
  by_cases h2 : a = a'
  · have e : decide (a < a' ∨ (a = a' ∧ b' < b)) = decide (b' < b) := decide_eq_decide.2 ⟨fun h => by omega, fun h => .inr ⟨h2, h⟩⟩
    rw [e]
    simp only [n115, r115, enc3, eq_false h1, eq_true h2, SB, Nat.reduceLT, callee, aOp, ne_eq, Nat.reduceEqDiff, aBin, aUn, if_true, if_false, reduceCtorEq, frame0, place, notTuple, Nat.reduceAdd, Nat.reduceLeDiff, resVal, dite_true, dite_false, Int.reduceEq, Int.reduceLT, Int.reduceLE]
  · have e := decide_eq_false (show ¬ (a < a' ∨ (a = a' ∧ b' < b)) by omega)
    rw [e]
    simp only [n115, r115, enc3, eq_false h1, eq_false h2, SB, Nat.reduceLT, callee, aOp, ne_eq, Nat.reduceEqDiff, aBin, aUn, if_true, if_false, reduceCtorEq, frame0, place, notTuple, Nat.reduceAdd, Nat.reduceLeDiff, resVal, dite_true, dite_false, Int.reduceEq, Int.reduceLT, Int.reduceLE]
/-- The price, count and first index of the rest at i that goes on with j. -/
def candN (P : List Int) (L : List Leg) (es : List Ev) (T : List Tri) (i j : Nat) : Tri := (priceN P L (gt es i) (gt es j) + 30 * ((j : Int) - i - 1) + (gt T j).1, (gt T j).2.1 + 1, (j : Int))
def pickR (x r : Tri) : Tri := if lessR x r then x else r
/-- The best rest at i, having tried the last m events. -/
def rowUp (P : List Int) (L : List Leg) (es : List Ev) (T : List Tri) (i : Nat) : Nat → Tri
  | 0 => (30 * ((es.length : Int) - 1 - i), 1, -1)
  | m + 1 => pickR (rowUp P L es T i m) (candN P L es T i (es.length - 1 - m))
def tableN (P : List Int) (L : List Leg) (es : List Ev) : Nat → List Tri
  | 0 => List.replicate es.length (0, 0, 0)
  | k + 1 => (tableN P L es k).set (es.length - 1 - k) (rowUp P L es (tableN P L es k) (es.length - 1 - k) k)
theorem tableN_len {P : List Int} {L : List Leg} {es : List Ev} : ∀ k, (tableN P L es k).length = es.length
  | 0 => by simp [tableN]
  | k + 1 => by rw [tableN, List.length_set, tableN_len k]
/-- Small numbers. -/
def SmallT (T : List Tri) : Prop := ∀ j, 0 ≤ (gt T j).1 ∧ (gt T j).1 ≤ 10000 ∧ 0 ≤ (gt T j).2.1 ∧ (gt T j).2.1 ≤ 40

theorem enc3_set3 {x : Tri} {a b c : Value} : (((enc3 x).set 0 a).set 1 b).set 2 c = [a, b, c] := id rfl
theorem mask1 {G : Heap} {c : Blk} : maskH G.length [0] (G ++ [c]) = G ++ [.dead] := by
  show (G ++ [c]).set (G.length + 0) .dead = _
  rw [Nat.add_zero, List.set_append_right _ _ (Nat.le_refl _), Nat.sub_self]; rfl
theorem unmask1 {G G1 : Heap} {c : Blk} : unmaskH G.length [0] (G ++ [c]) G1 = G1.set G.length c := by
  show G1.set (G.length + 0) (hget (G ++ [c]) (G.length + 0)) = _
  rw [Nat.add_zero, hget_new0]; rfl

theorem inner_ok [OB] {lim R M B8 BT : Nat} {S : List Nat} {pp pl pe : Option Addr} {P : List Int} {L : List Leg} {cp cl ce ct : Nat} {es : List Ev} {T : List Tri} {i : Nat} {G : Heap} {fr : Nat → Value} {K : List AItem} {Z : Value → Heap → Prop} (hi : i < es.length) (hlim : lim ≤ B8) (hS : B8 ∈ S) (hS2 : BT ∈ S)
    (h40 : es.length ≤ 40) (ht : ∀ i, i < es.length → 0 ≤ (gt es i).time ∧ (gt es i).time ≤ maxTime) (hT : T.length = es.length) (hsm : SmallT T)
    (hP : PI lim R M S G pp pl cp cl P L) (hs : Sl G encE 7 pe es) (hBT : hget G BT = .cells false (T.flatMap enc3)) (hB8 : hget G B8 = .cells false (enc3 (rowUp P L es T i 0)))
    (f0 : fr 0 = .pointer (some ⟨R, 0, none⟩)) (f1 : fr 1 = .slice pe es.length ce) (f5 : fr 5 = .slice (some ⟨BT, 0, none⟩) T.length ct) (f6 : fr 6 = .func (.func 115) #[] #[]) (f7 : fr 7 = .int .i64 (i : Int)) (f8 : fr 8 = .pointer (some ⟨B8, 0, none⟩)) (f9 : fr 9 = .int .i64 ((es.length : Int) - 1))
    (hR : ∀ fr' G', Chg [M, B8] G G' → PI lim R M S G' pp pl cp cl P L → hget G' B8 = .cells false (enc3 (rowUp P L es T i (es.length - 1 - i))) → (∀ j, j ≤ 8 → fr' j = fr j) → Ret E a89 lim K fr' G' Z) :
    Ret E a89 lim (.code (.loop l89_3) :: .inBlock 2 :: K) fr G Z := by
  refine Ret_rounds (fun m => es.length - m) (fun m fr' G' => m ≤ es.length - 1 - i ∧ Chg [M, B8] G G' ∧ PI lim R M S G' pp pl cp cl P L ∧ hget G' B8 = .cells false (enc3 (rowUp P L es T i m)) ∧ (∀ j, j ≤ 8 → fr' j = fr j) ∧ fr' 9 = .int .i64 ((es.length : Int) - 1 - m)) 0
    ⟨Nat.zero_le _, Chg.refl, hP, hB8, fun j _ => rfl, by rw [f9]; simp⟩ ?_
  intro m fr' G' ⟨hm, hC, hPI, hB, hfr, g9⟩ hN
  rw [Ret_code l89_3.eq_1]
  have g0 := (hfr 0 (by decide)).trans f0
  have g1 := (hfr 1 (by decide)).trans f1
  have g5 := (hfr 5 (by decide)).trans f5
  have g6 := (hfr 6 (by decide)).trans f6
  have g7 := (hfr 7 (by decide)).trans f7
  have g8 := (hfr 8 (by decide)).trans f8
  refine Ret_pad ?_
  by_cases hlt : m < es.length - 1 - i
  case neg =>
    obtain rfl : m = es.length - 1 - i := by omega
    have e9 : (es.length : Int) - 1 - ((es.length - 1 - i : Nat) : Int) = (i : Int) := by omega
    rw [e9] at g9
    simp only [n89, r89, g7, g9, SB, Nat.reduceLT, callee, aOp, ne_eq, Nat.reduceEqDiff, aBin, aUn, if_true, if_false, reduceCtorEq, frame0, place, notTuple, Nat.reduceAdd, Nat.reduceLeDiff, resVal, dite_true, dite_false, Int.reduceEq, Int.reduceLT, Int.reduceLE]
    exact hR _ _ hC.app (hPI.app _) ((Ext.refl.app).cells hB) fun j hj => by
      rw [← hfr j hj]
      simp only [upd]
      repeat rw [if_neg (by omega)]
  generalize hj : es.length - 1 - m = j
  have e9 : (es.length : Int) - 1 - (m : Int) = (j : Int) := by omega
  rw [e9] at g9
  have hjn : j < es.length := by omega
  have hij : i < j := by omega
  have hne : BT ≠ B8 := by
    rintro rfl
    rw [hBT] at hB8
    simp only [Blk.cells.injEq, true_and] at hB8
    have := congrArg List.length hB8
    rw [flat_len enc3_len, enc3_len] at this
    omega
  have hneM : BT ≠ M := fun e => hPI.oM (e ▸ hS2)
  have hsT : Sl G' enc3 3 (some ⟨BT, 0, none⟩) T := Sl.row (ro := false) enc3_len (hC.cells hBT (by simp; exact ⟨hneM, hne⟩))
  have hB8l : ∀ a, pe = some a → es ≠ [] → a.block ≠ B8 := fun a ha hn e => by
    subst ha
    obtain ⟨ro, c, k1, k2, _⟩ := hs.2 hn
    rw [e, hB8] at k1
    simp only [Blk.cells.injEq] at k1
    rw [← k1.2, enc3_len] at k2
    omega
  have hsG : Sl G' encE 7 pe es := slSimA hs fun a ha hn ro c hc => hC.cells hc (by
    have h1 := hB8l a ha hn
    have h2 : a.block ≠ M := fun e => by obtain ⟨ms, k1, _⟩ := hP.m; rw [e, k1] at hc; cases hc
    simp; exact ⟨h2, h1⟩)
  have la := fun X => (hsG.app X).loadCells encE_len hi
  have lb := fun X => (hsG.app X).loadCells encE_len hjn
  have xa := fun c (k : IntKind) (H1 : Heap) => hsG.idx (c := c) (k := k) (H1 := H1) hi
  have xb := fun c (k : IntKind) (H1 : Heap) => hsG.idx (c := c) (k := k) (H1 := H1) hjn
  have hjT : j < T.length := by omega
  have l0 := fun X => (hsT.app X).loadCell enc3_len hjT (j := 0) (by decide)
  have l1 := fun X => (hsT.app X).loadCell enc3_len hjT (j := 1) (by decide)
  simp only [enc3, List.getElem?_cons_zero, List.getElem?_cons_succ] at l0 l1
  have xj := fun c (k : IntKind) (H1 : Heap) => hsT.idx (c := c) (k := k) (H1 := H1) hjT
  have hsj := hsm j
  have w1 : IntKind.i64.wrap ((j : Int) - i) = (j : Int) - i := wrap_id (by omega) (by omega)
  have w2 : IntKind.i64.wrap ((j : Int) - i - 1) = (j : Int) - i - 1 := wrap_id (by omega) (by omega)
  have w3 : IntKind.i64.wrap (30 * ((j : Int) - i - 1)) = 30 * ((j : Int) - i - 1) := wrap_id (by omega) (by omega)
  have w4 : IntKind.i64.wrap ((gt T j).2.1 + 1) = (gt T j).2.1 + 1 := wrap_id (by omega) (by omega)
  have dlt := decide_eq_true (show i < j from hij)
  simp only [n89, r89, g0, g1, g5, g6, g7, g8, g9, dlt, la, lb, xa, xb, l0, l1, xj, w1, w2, w3, w4, SB, Nat.reduceLT, callee, aOp, ne_eq, Nat.reduceEqDiff, aBin, aUn, if_true, if_false, reduceCtorEq, frame0, place, notTuple, Nat.reduceAdd, Nat.reduceLeDiff, resVal, dite_true, dite_false, Int.reduceEq, Int.reduceLT, Int.reduceLE]
  have hB8g := hget_alive hB8
  have hGG := hC.len
  refine price_ok (a := gt es i) (b := gt es j) (hPI.grow [.dead] (Nat.le_refl _) (by simp)) (by simp; omega) (ht j hjn) fun G1 hC1 hPI1 => ⟨cellsKept_of ?_, ?_⟩
  · rw [mask1]
    exact (hPI.grow [.dead] (Nat.le_refl _) (by simp)).chgk hC1
  have hl1 := hC1.len
  simp at hl1
  obtain ⟨G2, e2, h2, m2⟩ := mut_set (show G'.length < G1.length by omega) (.cells false [.int .i64 0, .int .i64 0, .int .i64 0])
  have eu : unmaskH (List.length G') [0] (G' ++ [.cells false [.int .i64 0, .int .i64 0, .int .i64 0]]) G1 = G2 ++ [] := by rw [unmask1, ← e2, List.append_nil]
  rw [List.append_nil, eu]
  generalize hp : priceN P L (gt es i) (gt es j) = p
  have hpr := priceN_range (P := P) (L := L) (a := gt es i) (b := gt es j)
  rw [hp] at hpr
  have w5 : IntKind.i64.wrap (p + 30 * ((j : Int) - i - 1)) = p + 30 * ((j : Int) - i - 1) := wrap_id (by omega) (by omega)
  have w6 : IntKind.i64.wrap (p + 30 * ((j : Int) - i - 1) + (gt T j).1) = p + 30 * ((j : Int) - i - 1) + (gt T j).1 := wrap_id (by omega) (by omega)
  have w7 : IntKind.i64.wrap ((j : Int) - 1) = (es.length : Int) - 1 - ((m + 1 : Nat) : Int) := by rw [wrap_id (by omega) (by omega)]; omega
  obtain ⟨G3, e3, h3, m3⟩ := mut_set (hget_alive h2) (.cells false [.int .i64 (p + 30 * ((j : Int) - i - 1) + (gt T j).1), .int .i64 ((gt T j).2.1 + 1), .int .i64 (j : Int)])
  have hB1 := (hPI.app [.dead]).chgk hC1 _ _ _ ((Ext.refl.app).cells hB)
  have hBlt := hget_alive hB
  have hB3 := m3.cells (m2.cells hB1 (by omega)) (by omega)
  have ec : candN P L es T i j = (p + 30 * ((j : Int) - i - 1) + (gt T j).1, (gt T j).2.1 + 1, (j : Int)) := by unfold candN; rw [hp]
  have hless : ∀ (X : Heap) (mp : Bool) (lim : Nat) (Q : Value → Heap → Prop), CallR E mp lim 115 [.agg (enc3 (rowUp P L es T i m)).toArray, .agg #[.int .i64 (p + 30 * ((j : Int) - i - 1) + (gt T j).1), .int .i64 ((gt T j).2.1 + 1), .int .i64 (j : Int)]] X Q = Q (.bool (lessR (rowUp P L es T i m) (candN P L es T i j))) X := fun X mp lim Q => by rw [ec]; exact less_ok (x := rowUp P L es T i m) (y := (p + 30 * ((j : Int) - i - 1) + (gt T j).1, (gt T j).2.1 + 1, (j : Int)))
  have er : rowUp P L es T i (m + 1) = pickR (rowUp P L es T i m) (candN P L es T i j) := by rw [rowUp, hj]
  have X2 := fun X => (Ext.refl.app (X := X)).cells h2
  have X3 := fun X => (Ext.refl.app (X := X)).cells h3
  have XB := fun X => (Ext.refl.app (X := X)).cells hB3
  have k1 : Chg [M, B8] G G3 := ((hC.trans (hC1.pre.mono fun j _ hj => by simp at hj; simp [hj])).mut m2 (.inr (by have := hC.len; omega))).mut m3 (.inr (by have := hC.len; omega))
  have k2 := hPI1.chg ((Chg.refl.mut m2 (.inl (by simp))).mut m3 (.inl (by simp)))
  have hlimG' : lim ≤ G'.length := by omega
  cases hb : lessR (rowUp P L es T i m) (candN P L es T i j) with
  | true =>
    rw [hb] at hless
    rw [pickR, if_pos hb] at er
    simp only [n89, r89, g0, g1, g5, g6, g7, g8, g9, w5, w6, w7, X2, e3, X3, XB, enc3_len, take_all, hless, hlimG', SB, Nat.reduceLT, callee, aOp, ne_eq, Nat.reduceEqDiff, aBin, aUn, if_true, if_false, reduceCtorEq, frame0, place, notTuple, Nat.reduceAdd, Nat.reduceLeDiff, resVal, dite_true, dite_false, Int.reduceEq, Int.reduceLT, Int.reduceLE]
    exact hN (m + 1) _ _ ⟨by omega, k1.app, k2.sub (fun q hq => by simp [hq]) |>.app _, by rw [er]; exact (Ext.refl.app).cells hB3, fun q hq => by
      rw [← hfr q hq]
      simp only [upd]
      repeat rw [if_neg (by omega)], by rfl⟩ (by omega)
  | false =>
    rw [hb] at hless
    rw [pickR, if_neg (by rw [hb]; decide), ec] at er
    obtain ⟨G4, e4, h4, m4⟩ := mut_set (hget_alive hB3) (.cells false [.int .i64 (p + 30 * ((j : Int) - i - 1) + (gt T j).1), .int .i64 ((gt T j).2.1 + 1), .int .i64 (j : Int)])
    simp only [n89, r89, g0, g1, g5, g6, g7, g8, g9, w5, w6, w7, X2, e3, X3, XB, enc3_len, take_all, hless, hlimG', hlim, e4, enc3_set3, SB, Nat.reduceLT, callee, aOp, ne_eq, Nat.reduceEqDiff, aBin, aUn, if_true, if_false, reduceCtorEq, frame0, place, notTuple, Nat.reduceAdd, Nat.reduceLeDiff, resVal, dite_true, dite_false, Int.reduceEq, Int.reduceLT, Int.reduceLE]
    exact hN (m + 1) _ _ ⟨by omega, (k1.mut m4 (.inl (by simp))).app, ((k2.chg (Chg.refl.mut m4 (.inl (by simp [hS])))).sub (fun q hq => by simp [hq])).app _, by rw [er]; exact (Ext.refl.app).cells h4, fun q hq => by
      rw [← hfr q hq]
      simp only [upd]
      repeat rw [if_neg (by omega)], by rfl⟩ (by omega)
end Go.Proofs.Ytcmhnincbkbncaa.Fn
namespace Go.Proofs.Ytcmhnincbkbncaa.Fn
open Go.AM Go.AM.Sym Go.Net
set_option maxRecDepth 100000
set_option linter.unusedVariables false
set_option linter.unusedSimpArgs false
set_option maxHeartbeats 4000000

def Bnd (n j : Nat) (x : Tri) : Prop := 0 ≤ x.1 ∧ x.1 ≤ 110 * ((n : Int) - 1 - j) ∧ 0 ≤ x.2.1 ∧ x.2.1 ≤ (n : Int) - j ∧ -1 ≤ x.2.2 ∧ x.2.2 < n
theorem pickR_bnd {n j : Nat} {x y : Tri} (hx : Bnd n j x) (hy : Bnd n j y) : Bnd n j (pickR x y) := by
  unfold pickR
  split
  · exact hx
  · exact hy
theorem rowUp_bnd {P : List Int} {L : List Leg} {es : List Ev} {T : List Tri} {i : Nat} (hT : ∀ j, j < es.length → Bnd es.length j (gt T j)) (hi : i < es.length) : ∀ m, m ≤ es.length - 1 - i → Bnd es.length i (rowUp P L es T i m)
  | 0, _ => by
    unfold rowUp Bnd
    refine ⟨?_, ?_, ?_, ?_, ?_, ?_⟩ <;> simp only <;> omega
  | m + 1, hm => by
    rw [rowUp]
    refine pickR_bnd (rowUp_bnd hT hi m (by omega)) ?_
    have h1 := hT (es.length - 1 - m) (by omega)
    have h2 := priceN_range (P := P) (L := L) (a := gt es i) (b := gt es (es.length - 1 - m))
    unfold candN Bnd at *
    refine ⟨?_, ?_, ?_, ?_, ?_, ?_⟩ <;> simp only <;> omega
theorem gt_set {α : Type} [Inhabited α] {l : List α} {i j : Nat} {x : α} (hi : i < l.length) : gt (l.set i x) j = if i = j then x else gt l j := by
  unfold gt
  rw [List.getD_eq_getElem?_getD, List.getElem?_set, List.getD_eq_getElem?_getD]
  split
  · simp [hi]
  · rfl
theorem tableN_bnd {P : List Int} {L : List Leg} {es : List Ev} : ∀ k, k ≤ es.length → ∀ j, j < es.length → Bnd es.length j (gt (tableN P L es k) j)
  | 0, _, j, hj => by
    rw [tableN, gt_lt (by simpa using hj), List.getElem_replicate]
    unfold Bnd
    refine ⟨?_, ?_, ?_, ?_, ?_, ?_⟩ <;> simp only <;> omega
  | k + 1, hk, j, hj => by
    rw [tableN, gt_set (by rw [tableN_len]; omega)]
    split
    · rename_i e
      subst e
      exact rowUp_bnd (tableN_bnd k (by omega)) hj k (by omega)
    · exact tableN_bnd k (by omega) j hj
theorem bnd_small {n : Nat} {T : List Tri} (hn : n ≤ 40) (hT : T.length = n) (h : ∀ j, j < n → Bnd n j (gt T j)) : SmallT T := fun j => by
  by_cases hj : j < n
  · have := h j hj
    unfold Bnd at this
    omega
  · have e : gt T j = (0, 0, 0) := by unfold gt; rw [List.getD_eq_getElem?_getD, List.getElem?_eq_none (by omega)]; rfl
    rw [e]
    refine ⟨?_, ?_, ?_, ?_⟩ <;> simp only <;> omega
def NextOk (n j : Nat) (x : Tri) : Prop := x.2.2 = -1 ∨ ((j : Int) < x.2.2 ∧ x.2.2 < n)
theorem rowUp_next {P : List Int} {L : List Leg} {es : List Ev} {T : List Tri} {i : Nat} : ∀ m, m ≤ es.length - 1 - i → NextOk es.length i (rowUp P L es T i m)
  | 0, _ => .inl rfl
  | m + 1, hm => by
    rw [rowUp, pickR]
    split
    · exact rowUp_next m (by omega)
    · refine .inr ⟨?_, ?_⟩ <;> simp only [candN] <;> omega
theorem tableN_next {P : List Int} {L : List Leg} {es : List Ev} : ∀ k, k ≤ es.length → ∀ j, es.length - k ≤ j → j < es.length → NextOk es.length j (gt (tableN P L es k) j)
  | 0, _, j, h1, h2 => by omega
  | k + 1, hk, j, h1, hj => by
    rw [tableN, gt_set (by rw [tableN_len]; omega)]
    split
    · rename_i e
      subst e
      exact rowUp_next k (by omega)
    · exact tableN_next k (by omega) j (by omega) hj
def topC (T : List Tri) (i : Nat) : Tri := (30 * (i : Int) + (gt T i).1, (gt T i).2.1, (i : Int))
def topN (n : Nat) (T : List Tri) : Nat → Tri
  | 0 => (0, 0, -1)
  | m + 1 => if (topN n T m).2.2 < 0 then topC T (n - 1 - m) else pickR (topN n T m) (topC T (n - 1 - m))
def chainN (T : List Tri) : Nat → Int → List Int
  | 0, _ => []
  | f + 1, x => if x < 0 then [] else x :: chainN T f (gt T x.toNat).2.2
/-- The best itinerary's indices. -/
def bestN (P : List Int) (L : List Leg) (es : List Ev) : List Int := chainN (tableN P L es es.length) es.length (topN es.length (tableN P L es es.length) es.length).2.2
theorem topN_next {n : Nat} {T : List Tri} : ∀ m, m ≤ n → (topN n T m).2.2 < n ∧ -1 ≤ (topN n T m).2.2
  | 0, _ => ⟨by show (-1 : Int) < n; omega, Int.le_refl _⟩
  | m + 1, hm => by
    have h1 : (topC T (n - 1 - m)).2.2 < n ∧ -1 ≤ (topC T (n - 1 - m)).2.2 := by
      unfold topC
      constructor <;> simp only <;> omega
    have h2 := topN_next (n := n) (T := T) m (by omega)
    rw [topN]
    unfold pickR
    split
    · exact h1
    · split
      · exact h2
      · exact h1
theorem chainN_mem {n : Nat} {T : List Tri} (hT : ∀ j, j < n → NextOk n j (gt T j)) : ∀ (f : Nat) (x : Int), x < n → ∀ k ∈ chainN T f x, 0 ≤ k ∧ k < n
  | 0, _, _, k, hk => by cases hk
  | f + 1, x, hx, k, hk => by
    rw [chainN] at hk
    split at hk
    · cases hk
    · rename_i h0
      rcases List.mem_cons.1 hk with rfl | hk
      · exact ⟨by omega, hx⟩
      · refine chainN_mem hT f _ ?_ k hk
        rcases hT x.toNat (by omega) with e | e
        · rw [e]; omega
        · exact e.2
theorem chainN_len {T : List Tri} : ∀ (f : Nat) (x : Int), (chainN T f x).length ≤ f
  | 0, _ => Nat.le_refl _
  | f + 1, x => by
    rw [chainN]
    split
    · exact Nat.zero_le _
    · rw [List.length_cons]; have := chainN_len (T := T) f (gt T x.toNat).2.2; omega
theorem bestN_mem {P : List Int} {L : List Leg} {es : List Ev} : ∀ k ∈ bestN P L es, 0 ≤ k ∧ k < es.length :=
  chainN_mem (fun j hj => tableN_next _ (Nat.le_refl _) j (by omega) hj) _ _ (topN_next _ (Nat.le_refl _)).1

theorem zeros3 (n : Nat) : (List.range (n * 3)).map (fun j => [Value.int .i64 0, Value.int .i64 0, Value.int .i64 0].getD (j % 3) undef) = (List.replicate n ((0, 0, 0) : Tri)).flatMap enc3 := by
  have h1 : ∀ j, [Value.int .i64 0, Value.int .i64 0, Value.int .i64 0].getD (j % 3) undef = Value.int .i64 0 := fun j => by
    have : j % 3 = 0 ∨ j % 3 = 1 ∨ j % 3 = 2 := by omega
    rcases this with e | e | e <;> rw [e] <;> rfl
  simp only [h1]
  rw [List.map_const', List.length_range]
  induction n with
  | zero => rfl
  | succ n ih =>
    rw [List.replicate_succ, List.flatMap_cons, ← ih, Nat.succ_mul]
    rfl
theorem tsl {T : List Tri} {n : Nat} (h : T.length = n) (p : Option Addr) (c : Nat) : Value.slice p n c = Value.slice p T.length c := by rw [h]

theorem top_ok [OB] {lim R M B BT n : Nat} {S : List Nat} {pp pl pe : Option Addr} {P : List Int} {L : List Leg} {cp cl ce ct : Nat} {T : List Tri} {G : Heap} {fr : Nat → Value} {K : List AItem} {Z : Value → Heap → Prop} (hlim : lim ≤ B) (h40 : n ≤ 40) (hT : T.length = n) (hTb : ∀ j, j < n → Bnd n j (gt T j))
    (hP : PI lim R M S G pp pl cp cl P L) (hS : B ∈ S) (hne : BT ≠ B) (hBT : hget G BT = .cells false (T.flatMap enc3)) (hB : hget G B = .cells false (enc3 (topN n T 0)))
    (f1 : fr 1 = .slice pe n ce) (f5 : fr 5 = .slice (some ⟨BT, 0, none⟩) T.length ct) (f6 : fr 6 = .func (.func 115) #[] #[]) (f12 : fr 12 = .pointer (some ⟨B, 0, none⟩)) (f13 : fr 13 = .int .i64 ((n : Int) - 1))
    (hR : ∀ fr' G', Chg [B] G G' → PI lim R M S G' pp pl cp cl P L → hget G' B = .cells false (enc3 (topN n T n)) → (∀ j, j ≤ 12 → fr' j = fr j) → Ret E a89 lim K fr' G' Z) :
    Ret E a89 lim (.code (.loop l89_2) :: .inBlock 4 :: K) fr G Z := by
  refine Ret_rounds (fun m => n - m) (fun m fr' G' => m ≤ n ∧ Chg [B] G G' ∧ PI lim R M S G' pp pl cp cl P L ∧ hget G' B = .cells false (enc3 (topN n T m)) ∧ (∀ j, j ≤ 12 → fr' j = fr j) ∧ fr' 13 = .int .i64 ((n : Int) - 1 - m)) 0
    ⟨Nat.zero_le _, Chg.refl, hP, hB, fun j _ => rfl, by rw [f13]; simp⟩ ?_
  intro m fr' G' ⟨hm, hC, hPI, hB1, hfr, g13⟩ hN
  rw [Ret_code l89_2.eq_1]
  have g5 := (hfr 5 (by decide)).trans f5
  have g6 := (hfr 6 (by decide)).trans f6
  have g12 := (hfr 12 (by decide)).trans f12
  refine Ret_pad ?_
  by_cases hlt : m < n
  case neg =>
    obtain rfl : m = n := by omega
    have e9 : (m : Int) - 1 - (m : Int) = -1 := by omega
    rw [e9] at g13
    simp only [n89, r89, g13, SB, Nat.reduceLT, callee, aOp, ne_eq, Nat.reduceEqDiff, aBin, aUn, if_true, if_false, reduceCtorEq, frame0, place, notTuple, Nat.reduceAdd, Nat.reduceLeDiff, resVal, dite_true, dite_false, Int.reduceEq, Int.reduceLT, Int.reduceLE]
    exact hR _ _ hC.app (hPI.app _) ((Ext.refl.app).cells hB1) fun j hj => by
      rw [← hfr j hj]
      simp only [upd]
      repeat rw [if_neg (by omega)]
  generalize hi : n - 1 - m = i
  have e9 : (n : Int) - 1 - (m : Int) = (i : Int) := by omega
  rw [e9] at g13
  have hin : i < n := by omega
  have hiT : i < T.length := by omega
  have hsT : Sl G' enc3 3 (some ⟨BT, 0, none⟩) T := Sl.row (ro := false) enc3_len (hC.cells hBT (by simp; exact hne))
  have l0 := fun X => (hsT.app X).loadCell enc3_len hiT (j := 0) (by decide)
  have l1 := fun X => (hsT.app X).loadCell enc3_len hiT (j := 1) (by decide)
  simp only [enc3, List.getElem?_cons_zero, List.getElem?_cons_succ] at l0 l1
  have xj := fun c (k : IntKind) (H1 : Heap) => hsT.idx (c := c) (k := k) (H1 := H1) hiT
  have hb := hTb i hin
  unfold Bnd at hb
  have w1 : IntKind.i64.wrap (30 * (i : Int)) = 30 * (i : Int) := wrap_id (by omega) (by omega)
  have w2 : IntKind.i64.wrap (30 * (i : Int) + (gt T i).1) = 30 * (i : Int) + (gt T i).1 := wrap_id (by omega) (by omega)
  have w3 : IntKind.i64.wrap ((i : Int) - 1) = (n : Int) - 1 - ((m + 1 : Nat) : Int) := by rw [wrap_id (by omega) (by omega)]; omega
  have i0 := eq_true (show (0 : Int) ≤ (i : Int) by omega)
  have hlimG : lim ≤ G'.length := by have := hC.len; have := hget_alive hB; omega
  have hBl := hget_alive hB1
  have et : topN n T (m + 1) = if (topN n T m).2.2 < 0 then topC T i else pickR (topN n T m) (topC T i) := by rw [topN, hi]
  generalize hx : topN n T m = x at et
  rw [hx] at hB1
  have hB2 := hB1
  simp only [enc3] at hB2
  have XB := fun X => (Ext.refl.app (X := X)).cells hB2
  have hless : ∀ (X : Heap) (mp : Bool) (lim : Nat) (Q : Value → Heap → Prop), CallR E mp lim 115 [.agg #[.int .i64 x.1, .int .i64 x.2.1, .int .i64 x.2.2], .agg #[.int .i64 (30 * (i : Int) + (gt T i).1), .int .i64 (gt T i).2.1, .int .i64 (i : Int)]] X Q = Q (.bool (lessR x (topC T i))) X := fun X mp lim Q => less_ok (x := x) (y := topC T i)
  obtain ⟨G3, e3, h3, m3⟩ := mut_set hBl (.cells false [.int .i64 (30 * (i : Int) + (gt T i).1), .int .i64 (gt T i).2.1, .int .i64 (i : Int)])
  have hframe : ∀ (f : Nat → Value), (∀ j, j ≤ 12 → f j = fr' j) → ∀ j, j ≤ 12 → f j = fr j := fun f h j hj => (h j hj).trans (hfr j hj)
  by_cases hneg : x.2.2 < 0
  · rw [if_pos hneg] at et
    simp only [n89, r89, g5, g6, g12, g13, l0, l1, xj, w1, w2, w3, i0, hlimG, XB, eq_true hneg, hlim, e3, SB, Nat.reduceLT, callee, aOp, ne_eq, Nat.reduceEqDiff, aBin, aUn, if_true, if_false, reduceCtorEq, frame0, place, notTuple, Nat.reduceAdd, Nat.reduceLeDiff, resVal, dite_true, dite_false, Int.reduceEq, Int.reduceLT, Int.reduceLE]
    exact hN (m + 1) _ _ ⟨by omega, (hC.mut m3 (.inl (by simp))).app, (hPI.chg (Chg.refl.mut m3 (.inl hS))).app _, by rw [et]; exact (Ext.refl.app).cells h3, hframe _ (fun j hj => by
      simp only [upd]
      repeat rw [if_neg (by omega)]), by rfl⟩ (by omega)
  rw [if_neg hneg] at et
  cases hb : lessR x (topC T i) with
  | true =>
    rw [hb] at hless
    rw [pickR, if_pos hb] at et
    simp only [n89, r89, g5, g6, g12, g13, l0, l1, xj, w1, w2, w3, i0, hlimG, XB, eq_false hneg, hlim, hless, SB, Nat.reduceLT, callee, aOp, ne_eq, Nat.reduceEqDiff, aBin, aUn, if_true, if_false, reduceCtorEq, frame0, place, notTuple, Nat.reduceAdd, Nat.reduceLeDiff, resVal, dite_true, dite_false, Int.reduceEq, Int.reduceLT, Int.reduceLE]
    exact hN (m + 1) _ _ ⟨by omega, hC.app, hPI.app _, by rw [et]; exact (Ext.refl.app).cells hB1, hframe _ (fun j hj => by
      simp only [upd]
      repeat rw [if_neg (by omega)]), by rfl⟩ (by omega)
  | false =>
    rw [hb] at hless
    rw [pickR, if_neg (by rw [hb]; decide)] at et
    simp only [n89, r89, g5, g6, g12, g13, l0, l1, xj, w1, w2, w3, i0, hlimG, XB, eq_false hneg, hlim, hless, e3, SB, Nat.reduceLT, callee, aOp, ne_eq, Nat.reduceEqDiff, aBin, aUn, if_true, if_false, reduceCtorEq, frame0, place, notTuple, Nat.reduceAdd, Nat.reduceLeDiff, resVal, dite_true, dite_false, Int.reduceEq, Int.reduceLT, Int.reduceLE]
    exact hN (m + 1) _ _ ⟨by omega, (hC.mut m3 (.inl (by simp))).app, (hPI.chg (Chg.refl.mut m3 (.inl hS))).app _, by rw [et]; exact (Ext.refl.app).cells h3, hframe _ (fun j hj => by
      simp only [upd]
      repeat rw [if_neg (by omega)]), by rfl⟩ (by omega)

theorem best_ok [OB] {lim R M : Nat} {pp pl pe : Option Addr} {P : List Int} {L : List Leg} {cp cl ce : Nat} {es : List Ev} {H : Heap} {Q : Value → Heap → Prop} (h : PI lim R M [] H pp pl cp cl P L) (hlim : lim ≤ H.length)
    (hs : Sl H encE 7 pe es) (h40 : es.length ≤ 40) (ht : ∀ i, i < es.length → 0 ≤ (gt es i).time ∧ (gt es i).time ≤ maxTime)
    (hQ : ∀ G q cq, Chg [M] H G → PI lim R M [] G pp pl cp cl P L → Own H.length G encI 1 q cq (bestN P L es) → Q (.slice q (bestN P L es).length cq) G) :
    CallR E false lim 89 [.pointer (some ⟨R, 0, none⟩), .slice pe es.length ce] H Q := by
  refine runs' (by decide) e89 rfl ?_
  rw [b89, c89]
  have w1 : IntKind.i64.wrap ((es.length : Int) - 1) = (es.length : Int) - 1 := wrap_id (by omega) (by omega)
  have z3 := zeros3 es.length
  have hMl := h.alive
  have hms := eq_true (show 0 ≤ (es.length : Int) ∧ (es.length : Int) * 24 ≤ 2 ^ 45 ∧ (es.length : Int) < 2 ^ 62 by omega)
  simp only [n89, r89, w1, hms, z3, SB, Nat.reduceLT, callee, aOp, ne_eq, Nat.reduceEqDiff, aBin, aUn, if_true, if_false, reduceCtorEq, frame0, place, notTuple, Nat.reduceAdd, Nat.reduceLeDiff, resVal, dite_true, dite_false, Int.reduceEq, Int.reduceLT, Int.reduceLE]
  refine Ret_rounds (fun k => es.length - k) (fun k fr G => k ≤ es.length ∧ fr 0 = .pointer (some ⟨R, 0, none⟩) ∧ fr 1 = .slice pe es.length ce ∧ fr 5 = .slice (some ⟨H.length, 0, none⟩) es.length es.length ∧ fr 6 = .func (.func 115) #[] #[] ∧ fr 7 = .int .i64 ((es.length : Int) - 1 - k) ∧ Chg [M] H G ∧ PI lim R M [H.length] G pp pl cp cl P L ∧ hget G H.length = .cells false ((tableN P L es k).flatMap enc3)) 0
    ⟨Nat.zero_le _, (by simp only [FB, Nat.reduceEqDiff]), (by simp only [FB, Nat.reduceEqDiff]), (by simp only [FB, Nat.reduceEqDiff]), (by simp only [FB, Nat.reduceEqDiff]), by rw [show ((es.length : Int) - 1 - ((0 : Nat) : Int)) = (es.length : Int) - 1 by omega]; rfl, Chg.refl.app, h.grow _ (Nat.le_refl _) (by simp), by rw [hget_new0]; rfl⟩ ?_
  · intro k fr G ⟨hk, g0, g1, g5, g6, g7, hC, hPI, hT⟩ hN
    rw [Ret_code l89_4.eq_1]
    refine Ret_pad ?_
    by_cases hlt : k < es.length
    case neg =>
      obtain rfl : k = es.length := by omega
      have e7 : (es.length : Int) - 1 - (es.length : Int) = -1 := by omega
      rw [e7] at g7
      have hlimG : lim ≤ G.length := by have := hC.len; omega
      simp only [n89, r89, g0, g1, g5, g6, g7, w1, hlimG, SB, Nat.reduceLT, callee, aOp, ne_eq, Nat.reduceEqDiff, aBin, aUn, if_true, if_false, reduceCtorEq, frame0, place, notTuple, Nat.reduceAdd, Nat.reduceLeDiff, resVal, dite_true, dite_false, Int.reduceEq, Int.reduceLT, Int.reduceLE]
      have hTl := tableN_len (P := P) (L := L) (es := es) es.length
      have hTb := tableN_bnd (P := P) (L := L) (es := es) es.length (Nat.le_refl _)
      have hHG := hget_alive hT
      rw [tsl hTl] at g5
      refine top_ok (B := G.length) (BT := H.length) (n := es.length) (T := tableN P L es es.length) (R := R) (M := M) (S := [G.length, H.length]) (P := P) (L := L) (pp := pp) (pl := pl) (cp := cp) (cl := cl) (pe := pe) (ce := ce) (ct := es.length) hlimG h40 hTl (fun j hj => hTb j hj) (hPI.grow _ (Nat.le_refl _) (by simp)) (by simp) (by omega) ((Ext.refl.app).cells hT) (by rw [hget_new0]; rfl) (by simp only [g1, FB, Nat.reduceEqDiff]) (by simp only [g5, FB, Nat.reduceEqDiff]) (by simp only [g6, FB, Nat.reduceEqDiff]) (by simp only [FB, Nat.reduceEqDiff]) (by simp only [FB, Nat.reduceEqDiff]) fun fr' G1 hC1 hPI1 hB1 hfr => ?_
      have q5 : fr' 5 = .slice (some ⟨H.length, 0, none⟩) (tableN P L es es.length).length es.length := (hfr 5 (by decide)).trans (by simp only [g5, FB, Nat.reduceEqDiff])
      have q12 : fr' 12 = .pointer (some ⟨G.length, 0, none⟩) := (hfr 12 (by decide)).trans (by simp only [FB, Nat.reduceEqDiff])
      have hl1 := hC1.len
      simp at hl1
      have hT1 := hC1.cells ((Ext.refl.app).cells hT) (by simp; omega)
      simp only [enc3] at hB1
      have XB := fun X => (Ext.refl.app (X := X)).cells hB1
      have htn := topN_next (n := es.length) (T := tableN P L es es.length) es.length (Nat.le_refl _)
      have hC' : Chg [M] H G1 := (hC.app (X := [.cells false [.int .i64 0, .int .i64 0, .int .i64 (-1)]])).trans' hC1 fun j hj hjl => by simp at hj; omega
      refine Ret_pad ?_
      simp only [n89, r89, q5, q12, XB, SB, Nat.reduceLT, callee, aOp, ne_eq, Nat.reduceEqDiff, aBin, aUn, if_true, if_false, reduceCtorEq, frame0, place, notTuple, Nat.reduceAdd, Nat.reduceLeDiff, resVal, dite_true, dite_false, Int.reduceEq, Int.reduceLT, Int.reduceLE]
      refine Ret_rounds (fun s : Nat × Int × List Int × Option Addr × Nat => s.1) (fun s fr G => fr 5 = .slice (some ⟨H.length, 0, none⟩) (tableN P L es es.length).length es.length ∧ fr 16 = .int .i64 s.2.1 ∧ fr 15 = .slice s.2.2.2.1 s.2.2.1.length s.2.2.2.2 ∧ Chg [M] H G ∧ PI lim R M (opB s.2.2.2.1 ++ [H.length]) G pp pl cp cl P L ∧ hget G H.length = .cells false ((tableN P L es es.length).flatMap enc3) ∧ Own (H.length + 1) G encI 1 s.2.2.2.1 s.2.2.2.2 s.2.2.1 ∧
          s.2.2.1 ++ chainN (tableN P L es es.length) s.1 s.2.1 = bestN P L es ∧ s.2.1 < es.length ∧ (s.2.1 < 0 ∨ (es.length : Int) - s.2.1 ≤ s.1) ∧ s.2.2.1.length + s.1 = es.length) (es.length, (topN es.length (tableN P L es es.length) es.length).2.2, [], none, 0)
        ⟨(by simp only [q5, FB, Nat.reduceEqDiff]), (by simp only [FB, Nat.reduceEqDiff]), by rfl, hC'.app, (hPI1.sub (fun q hq => by simp [opB] at hq; simp [hq])).app _, (Ext.refl.app).cells hT1, .nil, rfl, htn.1, by simp only; omega, by simp⟩ ?_
      rintro ⟨f, x, l, pw, cw⟩ fr G ⟨g5, g16, g15, hC, hPI, hT, hO, hch, hx, hf, hll⟩ hN
      simp only at g5 g16 g15 hPI hO hch hx hf hll
      rw [Ret_code l89_1.eq_1]
      refine Ret_pad ?_
      by_cases hx0 : 0 ≤ x
      case neg =>
        have e : chainN (tableN P L es es.length) f x = [] := by
          cases f with
          | zero => rfl
          | succ f => rw [chainN, if_pos (by omega)]
        rw [e, List.append_nil] at hch
        subst hch
        simp only [n89, r89, g5, g16, g15, eq_false hx0, SB, Nat.reduceLT, callee, aOp, ne_eq, Nat.reduceEqDiff, aBin, aUn, if_true, if_false, reduceCtorEq, frame0, place, notTuple, Nat.reduceAdd, Nat.reduceLeDiff, resVal, dite_true, dite_false, Int.reduceEq, Int.reduceLT, Int.reduceLE]
        exact hQ _ _ _ hC.app ((hPI.sub (fun q hq => by cases hq)).app _) ((hO.le (by omega)).app _)
      obtain ⟨j, rfl⟩ := Int.eq_ofNat_of_zero_le hx0
      obtain ⟨f, rfl⟩ : ∃ g, f = g + 1 := ⟨f - 1, by omega⟩
      rw [chainN, if_neg (by omega), Int.toNat_natCast] at hch
      have hjn : j < (tableN P L es es.length).length := by omega
      have hnx := tableN_next (P := P) (L := L) (es := es) es.length (Nat.le_refl _) j (by omega) (by omega)
      have hHl := hget_alive hT
      obtain ⟨G4, e4, O4, C4, hl4⟩ := Own.moreF hO (lim' := lim) (bytes := 8) (by omega) encI_len (by decide) [(j : Int)] (by simp) (by simp; unfold maxBytes; omega) (by simp; omega) [.cells false [.int .i64 (j : Int)]] (x := .slice (some ⟨G.length, 0, none⟩) 1 1) (str := false)
        (first_slice (m := [(j : Int)]) (Sl.row (ro := false) encI_len (by rw [hget_new0]; rfl))) rfl
      have hpw : ∀ j, j ∈ opB pw → H.length + 1 ≤ j ∧ j < G.length := fun j hj => by
        cases hpe : pw with
        | none => rw [hpe] at hj; cases hj
        | some a => rw [hpe] at hj; have := hO.block hpe; simp [opB] at hj; omega
      generalize hp' : (G ++ [Blk.cells false [.int .i64 (j : Int)]]).length = r at e4 O4 hl4
      have hr' : G.length ≤ r := by rw [← hp']; simp
      generalize loose 1 = c' at e4 O4
      simp only [List.length_cons, List.length_nil, Nat.zero_add] at e4
      have hT4 := C4.cells hT fun hm => by have := hpw _ hm; omega
      have hs4 := Sl.row (R := H.length) (ro := false) enc3_len hT4
      have l2 := fun X => (hs4.app X).loadCell enc3_len hjn (j := 2) (by decide)
      simp only [enc3, List.getElem?_cons_zero, List.getElem?_cons_succ] at l2
      have xj := fun c (k : IntKind) (H1 : Heap) => hs4.idx (c := c) (k := k) (H1 := H1) hjn
      simp only [n89, r89, g5, g16, g15, e4, l2, xj, eq_true hx0, SB, Nat.reduceLT, callee, aOp, ne_eq, Nat.reduceEqDiff, aBin, aUn, if_true, if_false, reduceCtorEq, frame0, place, notTuple, Nat.reduceAdd, Nat.reduceLeDiff, resVal, dite_true, dite_false, Int.reduceEq, Int.reduceLT, Int.reduceLE]
      have k1 := (hPI.growC (b := r) (G' := G4) (C4.mono fun q _ hq => List.mem_append_left _ hq) hr' hl4).sub (S' := opB (some ⟨r, 0, none⟩) ++ [H.length]) fun q hq => by
        simp [opB] at hq
        rcases hq with e | e
        · simp [e]
        · simp [e]
      have hx2 : (gt (tableN P L es es.length) j).2.2 < es.length ∧ ((gt (tableN P L es es.length) j).2.2 < 0 ∨ (es.length : Int) - (gt (tableN P L es es.length) j).2.2 ≤ (f : Int)) := by
        rcases hnx with e | e
        · exact ⟨by omega, .inl (by omega)⟩
        · exact ⟨e.2, .inr (by omega)⟩
      exact hN (f, (gt (tableN P L es es.length) j).2.2, l ++ [(j : Int)], some ⟨r, 0, none⟩, c') _ _ ⟨(by simp only [g5, FB, Nat.reduceEqDiff]), by rfl, by show _ = Value.slice _ (l ++ [(j : Int)]).length _; rw [List.length_append]; rfl,
        (hC.trans' C4 fun q hq hql => by have := hpw q hq; omega).app, k1.app _, (Ext.refl.app).cells hT4, (O4.le (by omega)).app _, by rw [List.append_assoc]; exact hch, hx2.1, hx2.2, by simp only [List.length_append, List.length_singleton]; omega⟩ (by show f < f + 1; omega)
    generalize hi : es.length - 1 - k = i
    have e7 : (es.length : Int) - 1 - (k : Int) = (i : Int) := by omega
    rw [e7] at g7
    have hie : i < es.length := by omega
    have w2 : IntKind.i64.wrap ((es.length : Int) - 1 - i) = (es.length : Int) - 1 - i := wrap_id (by omega) (by omega)
    have w3 : IntKind.i64.wrap (30 * ((es.length : Int) - 1 - i)) = 30 * ((es.length : Int) - 1 - i) := wrap_id (by omega) (by omega)
    have w4 : IntKind.i64.wrap ((i : Int) - 1) = (es.length : Int) - 1 - ((k + 1 : Nat) : Int) := by rw [wrap_id (by omega) (by omega)]; omega
    have hlimG : lim ≤ G.length := by have := hC.len; omega
    have i0 := eq_true (show (0 : Int) ≤ (i : Int) by omega)
    have hTl := tableN_len (P := P) (L := L) (es := es) k
    have hHG := hget_alive hT
    simp only [n89, r89, g0, g1, g5, g6, g7, w1, w2, w3, hlimG, i0, SB, Nat.reduceLT, callee, aOp, ne_eq, Nat.reduceEqDiff, aBin, aUn, if_true, if_false, reduceCtorEq, frame0, place, notTuple, Nat.reduceAdd, Nat.reduceLeDiff, resVal, dite_true, dite_false, Int.reduceEq, Int.reduceLT, Int.reduceLE]
    rw [tsl hTl] at g5
    refine inner_ok (B8 := G.length) (BT := H.length) (S := [G.length, H.length]) (i := i) (T := tableN P L es k) (P := P) (L := L) (R := R) (M := M) (pp := pp) (pl := pl) (cp := cp) (cl := cl) (es := es) (pe := pe) (ce := ce) (ct := es.length) hie hlimG (by simp) (by simp) h40 ht hTl (bnd_small h40 hTl (tableN_bnd k (by omega)))
      (hPI.grow _ (Nat.le_refl _) (by simp)) (((hs.sim (h.chgk hC))).app _) ((Ext.refl.app).cells hT) (by rw [hget_new0]; rfl) (by simp only [g0, FB, Nat.reduceEqDiff]) (by simp only [g1, FB, Nat.reduceEqDiff]) (by simp only [g5, FB, Nat.reduceEqDiff]) (by simp only [g6, FB, Nat.reduceEqDiff]) (by simp only [g7, FB, Nat.reduceEqDiff]) (by simp only [FB, Nat.reduceEqDiff]) (by simp only [FB, Nat.reduceEqDiff]) fun fr' G1 hC1 hPI1 hB1 hfr => ?_
    have q0 : fr' 0 = .pointer (some ⟨R, 0, none⟩) := (hfr 0 (by decide)).trans (by simp only [g0, FB, Nat.reduceEqDiff])
    have q1 : fr' 1 = .slice pe es.length ce := (hfr 1 (by decide)).trans (by simp only [g1, FB, Nat.reduceEqDiff])
    have q5 : fr' 5 = .slice (some ⟨H.length, 0, none⟩) (tableN P L es k).length es.length := (hfr 5 (by decide)).trans (by simp only [g5, FB, Nat.reduceEqDiff])
    have q6 : fr' 6 = .func (.func 115) #[] #[] := (hfr 6 (by decide)).trans (by simp only [g6, FB, Nat.reduceEqDiff])
    have q7 : fr' 7 = .int .i64 (i : Int) := (hfr 7 (by decide)).trans (by simp only [g7, FB, Nat.reduceEqDiff])
    have q8 : fr' 8 = .pointer (some ⟨G.length, 0, none⟩) := (hfr 8 (by decide)).trans (by simp only [FB, Nat.reduceEqDiff])
    have hkm : es.length - 1 - i = k := by omega
    rw [hkm] at hB1
    have hMH : H.length ∉ [M, G.length] := by simp; omega
    have hT1 := hC1.cells ((Ext.refl.app).cells hT) hMH
    obtain ⟨G2, e2, h2, m2⟩ := store_mut (lim := lim) (p := some ⟨H.length, 0, none⟩) enc3_len rfl hT1 hlim (i := i) (by rw [hTl]; exact hie) (rowUp P L es (tableN P L es k) i k)
    have xT := fun c (kk : IntKind) (H1 : Heap) => (Sl.row (R := H.length) (ro := false) enc3_len hT1).idx (c := c) (k := kk) (H1 := H1) (i := i) (by rw [hTl]; exact hie)
    have XB := fun X => (Ext.refl.app (X := X)).cells hB1
    have et : tableN P L es (k + 1) = (tableN P L es k).set i (rowUp P L es (tableN P L es k) i k) := by rw [tableN, hi]
    refine Ret_pad ?_
    simp only [n89, r89, q0, q1, q5, q6, q7, q8, XB, enc3_len, take_all, e2, xT, w4, SB, Nat.reduceLT, callee, aOp, ne_eq, Nat.reduceEqDiff, aBin, aUn, if_true, if_false, reduceCtorEq, frame0, place, notTuple, Nat.reduceAdd, Nat.reduceLeDiff, resVal, dite_true, dite_false, Int.reduceEq, Int.reduceLT, Int.reduceLE]
    have hl1 := hC1.len
    simp at hl1
    exact hN (k + 1) _ _ ⟨by omega, (by simp only [q0, FB, Nat.reduceEqDiff]), (by simp only [q1, FB, Nat.reduceEqDiff]), (by simp only [q5, hTl, FB, Nat.reduceEqDiff]), (by simp only [q6, FB, Nat.reduceEqDiff]), (by simp only [FB, Nat.reduceEqDiff]), (((hC.app (X := [.cells false (enc3 (rowUp P L es (tableN P L es k) i 0))])).trans' hC1 fun j hj hjl => by simp at hj; simp; omega).mut m2 (.inr (by omega))).app, ((hPI1.chg (Chg.refl.mut m2 (.inl (by simp)))).sub (fun q hq => by simp at hq; simp [hq])).app _, by rw [et]; exact (Ext.refl.app).cells h2⟩ (by omega)
end Go.Proofs.Ytcmhnincbkbncaa.Fn
namespace Go.Proofs.Ytcmhnincbkbncaa.Fn
open Go.AM Go.AM.Sym Go.Net
set_option maxRecDepth 100000
set_option linter.unusedVariables false
set_option linter.unusedSimpArgs false
set_option maxHeartbeats 4000000

theorem Best_ok [OB] {lim : Nat} {pp pl pe : Option Addr} {P : List Int} {L : List Leg} {cp cl ce : Nat} {es : List Ev} {H : Heap} {Q : Value → Heap → Prop} (hn : NetIn H pp pl P L) (hlim : lim ≤ H.length)
    (hs : Sl H encE 7 pe es) (hsl : es.length < 2 ^ 62)
    (hbad : ∀ G, errI P L es ≠ 0 → Chg [] H G → Q (.tuple #[.agg #[.slice none 0 0, .slice none 0 0, .int .i64 0], .int .i64 (errI P L es)]) G)
    (hok : ∀ G q cq r cr, errI P L es = 0 → Chg [] H G → Mine H.length G encI 1 q (bestN P L es) → Mine H.length G enc3 3 r (stepsN P L es (bestN P L es)) → Q (.tuple #[.agg #[.slice q (bestN P L es).length cq, .slice r (stepsN P L es (bestN P L es)).length cr, .int .i64 (costN P L es (bestN P L es))], .int .i64 0]) G) :
    CallR E false lim 41 [.agg (netV pp P.length cp pl L.length cl).toArray, .slice pe es.length ce] H Q := by
  refine runs' (by decide) e41 rfl ?_
  rw [b41, c41]
  have hck' := fun X (mp : Bool) (lim : Nat) (Q : Value → Heap → Prop) => check_ok (mp := mp) (lim := lim) (cp := cp) (cl := cl) (ce := ce) (Q := Q) (hn.app X) (hs.app X) (by omega)
  by_cases h0 : errI P L es = 0
  case neg =>
    simp only [n41, r41, netV_len, netV_0, netV_1, take_all, hck', eq_false h0, hlim, SB, Nat.reduceLT, callee, aOp, ne_eq, Nat.reduceEqDiff, aBin, aUn, if_true, if_false, reduceCtorEq, frame0, place, notTuple, Nat.reduceAdd, Nat.reduceLeDiff, resVal, dite_true, dite_false, Int.reduceEq, Int.reduceLT, Int.reduceLE]
    exact hbad _ h0 Chg.refl.app
  obtain ⟨hv0, h40, hev⟩ := errI_0 h0
  have ht := fun i (hi : i < es.length) => And.intro (hev i hi).2.1 (hev i hi).2.2.1
  simp only [n41, r41, netV_len, netV_0, netV_1, take_all, hck', eq_true h0, hlim, SB, Nat.reduceLT, callee, aOp, ne_eq, Nat.reduceEqDiff, aBin, aUn, if_true, if_false, reduceCtorEq, frame0, place, notTuple, Nat.reduceAdd, Nat.reduceLeDiff, resVal, dite_true, dite_false, Int.reduceEq, Int.reduceLT, Int.reduceLE]
  refine newPricer_ok (lim := lim) (hn.app _) (by simp; omega) fun G1 R M hE1 hR hM hPI => ?_
  have hl1 := hE1.len
  simp at hl1 hR hM
  have hE1H : Ext H G1 := (Ext.refl.app).trans hE1
  have r4 : hget G1 (H.length + 1) = .cells false [.slice none 0 0, .slice none 0 0, .int .i64 0] := hE1.cells (by rw [hget_new]; rfl)
  refine Ret_pad ?_
  simp only [n41, r41, SB, Nat.reduceLT, callee, aOp, ne_eq, Nat.reduceEqDiff, aBin, aUn, if_true, if_false, reduceCtorEq, frame0, place, notTuple, Nat.reduceAdd, Nat.reduceLeDiff, resVal, dite_true, dite_false, Int.reduceEq, Int.reduceLT, Int.reduceLE]
  refine best_ok (hPI.app _) (by simp; omega) ((hE1H.sl hs).app _) h40 ht fun G2 q cq hC2 hPI2 hO2 => ?_
  have hl2 := hC2.len
  simp at hl2
  have hC2' : Chg [M] H G2 := ((Ext.chg (A := [M]) hE1H).trans hC2.pre)
  have hC2'' := hC2.pre
  refine Ret_pad ?_
  simp only [n41, r41, SB, Nat.reduceLT, callee, aOp, ne_eq, Nat.reduceEqDiff, aBin, aUn, if_true, if_false, reduceCtorEq, frame0, place, notTuple, Nat.reduceAdd, Nat.reduceLeDiff, resVal, dite_true, dite_false, Int.reduceEq, Int.reduceLT, Int.reduceLE]
  refine path_ok (hPI2.app _) (by simp; omega) (((hE1H.sl hs).sim (hPI.chgk hC2'')).app _) h40 ht ((hO2.sl encI_len).app _) (by have := chainN_len (T := tableN P L es es.length) es.length (topN es.length (tableN P L es es.length) es.length).2.2; unfold bestN; omega) (fun hq => by
    rcases hO2 with ⟨_, _, k⟩ | ⟨R, k, _⟩
    · exact k
    · rw [hq] at k; cases k) bestN_mem fun G3 q' cq' r cr hC3 hPI3 hq hr => ?_
  have r4' := hC3.cells ((Ext.refl.app (X := [])).cells (hC2''.cells r4 (by simp; omega))) (by simp; omega)
  obtain ⟨G4, e4, h4, m4⟩ := mut_set (hget_alive r4') (.cells false [.slice q' (bestN P L es).length cq', .slice r (stepsN P L es (bestN P L es)).length cr, .int .i64 (costN P L es (bestN P L es))])
  have x6 := fun X => (Ext.refl.app (X := X)).cells r4'
  have x7 := fun X => (Ext.refl.app (X := X)).cells h4
  have hlim1 : lim ≤ H.length + 1 := by omega
  refine Ret_pad ?_
  simp only [n41, r41, x6, e4, x7, hlim1, SB, Nat.reduceLT, callee, aOp, ne_eq, Nat.reduceEqDiff, aBin, aUn, if_true, if_false, reduceCtorEq, frame0, place, notTuple, Nat.reduceAdd, Nat.reduceLeDiff, resVal, dite_true, dite_false, Int.reduceEq, Int.reduceLT, Int.reduceLE]
  exact hok _ q' cq' r cr h0 ((((Ext.chg (A := []) hE1H).trans' hC2'' fun j hj hjl => by simp at hj; omega).trans' hC3.pre fun j hj hjl => by simp at hj; omega).mut m4 (.inr (by omega))).app (((hq.mut m4 (by simp; omega)).le (by simp; omega)).app _) (((hr.mut m4 (by simp; omega)).le (by simp; omega)).app _)
end Go.Proofs.Ytcmhnincbkbncaa.Fn
namespace Go.Proofs.Ytcmhnincbkbncaa.Fn
open Go.AM Go.AM.Sym Go.Net
set_option maxRecDepth 100000
set_option linter.unusedVariables false
set_option linter.unusedSimpArgs false
set_option maxHeartbeats 4000000

def lq1 : Leg := ⟨1, 1, 2, 600, 60, 0, 1000, 127⟩
def P2 : List Int := [1, 2]
def L2 : List Leg := [lq1]
def seenE (p t : Int) : Ev := ⟨7, p, 1, 2, t, t, t⟩
theorem val2 : validN P2 L2 = 0 := by decide
theorem net2 {L : List Leg} (h : validN P2 L = 0) : NetOk 2 P2 L (posN P2) := by
  have := valid_net h
  exact ⟨this.fine, this.frm, this.dst, this.inj, fun a ha => List.idxOf_lt_length_of_mem ha⟩
theorem p21 : posN P2 1 = 0 := rfl
theorem p22 : posN P2 2 = 1 := rfl
theorem qn1 : nextD lq1 500 = some 600 := nx 0 rfl (by decide) (by decide) (by decide) (by decide) (by decide)
theorem qn2 : nextD lq1 200 = some 600 := nx 0 rfl (by decide) (by decide) (by decide) (by decide) (by decide)
theorem v_a : stepA (posN P2) (500 + 86400) L2 [500, -1] = [500, 660] := by simp [stepA, L2, useA, show lq1.frm = 1 from rfl, show lq1.dst = 2 from rfl, show lq1.mins = 60 from rfl, p21, p22, qn1]
theorem v_b : stepA (posN P2) (500 + 86400) L2 [500, 660] = [500, 660] := by simp [stepA, L2, useA, show lq1.frm = 1 from rfl, show lq1.dst = 2 from rfl, show lq1.mins = 60 from rfl, p21, p22, qn1]
theorem v_c : stepA (posN P2) (200 + 86400) L2 [200, -1] = [200, 660] := by simp [stepA, L2, useA, show lq1.frm = 1 from rfl, show lq1.dst = 2 from rfl, show lq1.mins = 60 from rfl, p21, p22, qn2]
theorem v_d : stepA (posN P2) (200 + 86400) L2 [200, 660] = [200, 660] := by simp [stepA, L2, useA, show lq1.frm = 1 from rfl, show lq1.dst = 2 from rfl, show lq1.mins = 60 from rfl, p21, p22, qn2]
theorem v_e : stepA (posN P2) (500 + 86400) L2 [-1, 500] = [-1, 500] := by simp [stepA, L2, useA, show lq1.frm = 1 from rfl, show lq1.dst = 2 from rfl, show lq1.mins = 60 from rfl, p21, p22]
theorem arr2 {p r q : Int} {A : List Int} {k : Nat} (hp : p ∈ P2) (hq : q ∈ P2) (hr : 0 ≤ r) (hk : arrK 2 (posN P2) (r + 86400) L2 p r k = A) (hs : stepA (posN P2) (r + 86400) L2 A = A) : arrV P2 L2 p r q = A.getD (posN P2 q) (-1) := by
  have h1 := arrK_all (net2 val2) hp hr (by omega : r ≤ r + 86400) (k := k) (by rw [arrK, hk, hs]) q hq
  rw [hk] at h1
  have h2 : IsArr L2 p r q (arrV P2 L2 p r q) := arrV_is (valid_net val2) hp hq hr
  exact h2.uniq h1
theorem u_a : arrV P2 L2 1 500 2 = 660 := arr2 (k := 1) (A := [500, 660]) (by decide) (by decide) (by decide) (by rw [arrK, arrK]; exact v_a) v_b
theorem u_b : arrV P2 L2 1 200 2 = 660 := arr2 (k := 1) (A := [200, 660]) (by decide) (by decide) (by decide) (by rw [arrK, arrK]; exact v_c) v_d
theorem u_c : arrV P2 L2 2 500 1 = -1 := arr2 (k := 0) (A := [-1, 500]) (by decide) (by decide) (by decide) (by rw [arrK]; rfl) v_e
theorem pr_eq {p t q s v : Int} (hv : arrV P2 L2 p t q = v) (h2 : ¬ p = q) (hq : q ∈ P2) (he : errA P2 L2 p p t = 0) : priceN P2 L2 (seenE p t) (seenE q s) = if v < 0 then 80 else min (max (v - s) 0) 60 := by
  unfold priceN
  show (if (2 : Int) = 4 then (80 : Int) else if p = q then 0 else if q ∉ P2 then 80 else if errA P2 L2 p p t ≠ 0 then 80 else if arrV P2 L2 p t q < 0 then 80 else min (max (arrV P2 L2 p t q - s) 0) 60) = _
  rw [if_neg (by decide), if_neg h2, if_neg (by simpa using hq), if_neg (by simpa using he), hv]
theorem x_a : priceN P2 L2 (seenE 1 500) (seenE 2 660) = 0 := (pr_eq u_a (by decide) (by decide) (by decide)).trans (by decide)
theorem x_b : priceN P2 L2 (seenE 1 500) (seenE 2 650) = 10 := (pr_eq u_a (by decide) (by decide) (by decide)).trans (by decide)
theorem x_c : priceN P2 L2 (seenE 1 200) (seenE 2 300) = 60 := (pr_eq u_b (by decide) (by decide) (by decide)).trans (by decide)
theorem x_d : priceN P2 L2 (seenE 2 500) (seenE 1 5000) = 80 := (pr_eq u_c (by decide) (by decide) (by decide)).trans (by decide)
theorem x_e : priceN P2 L2 (seenE 1 500) (seenE 2 510) = 60 := (pr_eq u_a (by decide) (by decide) (by decide)).trans (by decide)
theorem x_f : priceN P2 L2 (seenE 2 510) (seenE 2 660) = 0 := rfl
theorem i_a : errI P2 L2 [seenE 1 500, seenE 2 660] = 0 := by decide
theorem i_b : errI P2 L2 [seenE 1 500, seenE 2 650] = 0 := by decide
theorem i_c : errI P2 L2 [seenE 1 200, seenE 2 300] = 0 := by decide
theorem i_d : errI P2 L2 [seenE 2 500, seenE 1 5000] = 0 := by decide
def E3 : List Ev := [seenE 1 500, seenE 2 510, seenE 2 660]
theorem i_e : errI P2 L2 E3 = 0 := by decide
theorem i_f : errC P2 L2 E3 [0, 1, 2] = 0 := by decide
theorem ge0 : gt E3 0 = seenE 1 500 := rfl
theorem ge1 : gt E3 1 = seenE 2 510 := rfl
theorem ge2 : gt E3 2 = seenE 2 660 := rfl
theorem tb1 : tableN P2 L2 E3 1 = [(0, 0, 0), (0, 0, 0), (0, 1, -1)] := rfl
theorem tb2 : tableN P2 L2 E3 2 = [(0, 0, 0), (0, 2, 2), (0, 1, -1)] := by
  rw [tableN, tb1]
  have : candN P2 L2 E3 [(0, 0, 0), (0, 0, 0), (0, 1, -1)] 1 2 = (0, 2, 2) := by unfold candN; rw [ge1, ge2, x_f]; rfl
  show List.set _ 1 (pickR (30, 1, -1) (candN P2 L2 E3 [(0, 0, 0), (0, 0, 0), (0, 1, -1)] 1 2)) = _
  rw [this]; rfl
theorem tb3 : tableN P2 L2 E3 3 = [(30, 2, 2), (0, 2, 2), (0, 1, -1)] := by
  rw [tableN, tb2]
  have a2 : candN P2 L2 E3 [(0, 0, 0), (0, 2, 2), (0, 1, -1)] 0 2 = (30, 2, 2) := by unfold candN; rw [ge0, ge2, x_a]; rfl
  have a1 : candN P2 L2 E3 [(0, 0, 0), (0, 2, 2), (0, 1, -1)] 0 1 = (60, 3, 1) := by unfold candN; rw [ge0, ge1, x_e]; rfl
  show List.set _ 0 (pickR (pickR (60, 1, -1) (candN P2 L2 E3 [(0, 0, 0), (0, 2, 2), (0, 1, -1)] 0 2)) (candN P2 L2 E3 [(0, 0, 0), (0, 2, 2), (0, 1, -1)] 0 1)) = _
  rw [a2, a1]; rfl
theorem best3 : bestN P2 L2 E3 = [0, 2] := by
  show chainN (tableN P2 L2 E3 3) 3 (topN 3 (tableN P2 L2 E3 3) 3).2.2 = _
  rw [tb3]; rfl
theorem steps3 : stepsN P2 L2 E3 [0, 2] = [(0, 2, 0)] := by
  show [(0, 2, priceN P2 L2 (seenE 1 500) (seenE 2 660))] = _
  rw [x_a]
theorem cost3 : costN P2 L2 E3 [0, 2] = 30 := by rw [costN, steps3]; rfl
theorem steps4 : stepsN P2 L2 E3 [0, 1, 2] = [(0, 1, 60), (1, 2, 0)] := by
  show [(0, 1, priceN P2 L2 (seenE 1 500) (seenE 2 510)), (1, 2, 0)] = _
  rw [x_e]
theorem cost4 : costN P2 L2 E3 [0, 1, 2] = 60 := by rw [costN, steps4]; rfl
end Go.Proofs.Ytcmhnincbkbncaa.Fn
namespace Go.Proofs.Ytcmhnincbkbncaa.Fn
open Go.AM Go.AM.Sym Go.Net
set_option maxRecDepth 100000
set_option linter.unusedVariables false
set_option linter.unusedSimpArgs false
set_option maxHeartbeats 4000000

def exaF (P : List Int) (L : List Leg) (T : List Int) : Nat → List Int
  | 0 => T
  | k + 1 => stepX 50 (posN P) L (exaF P L T k)
theorem exaF_exaK {P : List Int} {L : List Leg} {q dl : Int} : ∀ k, exaF P L (oneT 50 (posN P q) dl) k = exaK 50 (posN P) L q dl k
  | 0 => rfl
  | k + 1 => by rw [exaF, exaK, exaF_exaK k]
theorem okT_rep : okT (List.replicate 50 (-1)) := ⟨by simp, fun j => by
  rw [List.getD_eq_getElem?_getD, List.getElem?_replicate]; unfold maxTime; split <;> simp⟩
theorem useX_max {pos : Int → Nat} {bef aft : List Int} {l : Leg} {a : Int} (h0 : ¬ bef.getD (pos l.dst) (-1) < 0) (h : lastD l (bef.getD (pos l.dst) (-1)) = some a) : useX pos bef aft l = aft.set (pos l.frm) (max (aft.getD (pos l.frm) (-1)) (a - l.cut)) := by
  unfold useX
  rw [if_neg h0]
  simp only [h]
  congr 1
  split <;> omega

theorem latest_inner [OB] {lim R A10 A11 : Nat} {pl : Option Addr} {P : List Int} {L : List Leg} {cl : Nat} {H G : Heap} {fr : Nat → Value} {K : List AItem} {Z : Value → Heap → Prop} {bef : List Int}
    (hno : NetOk 50 P L (posN P)) (hL : Sl H encL 8 pl L) (hnL : L.length < 2 ^ 62) (hm : hget H R = .map (posV P)) (hlim : lim ≤ H.length) (hb : okT bef) (hE : Chg [] H G) (hA10 : H.length ≤ A10) (hA11 : H.length ≤ A11) (hne : A10 ≠ A11) (h10 : hget G A10 = .cells false (encT bef)) (h11 : hget G A11 = .cells false (encT (List.replicate 50 (-1))))
    (f1 : fr 1 = .map (some R)) (f10 : fr 10 = .pointer (some ⟨A10, 0, none⟩)) (f11 : fr 11 = .pointer (some ⟨A11, 0, none⟩)) (f30 : fr 30 = .slice pl L.length cl) (f31 : fr 31 = .int .i64 (L.length : Int)) (f32 : fr 32 = .int .i64 0)
    (hR : ∀ fr' G', okT (stepX 50 (posN P) L bef) → Chg [A11] G G' → hget G' A11 = .cells false (encT (stepX 50 (posN P) L bef)) → fr' 1 = fr 1 → fr' 4 = fr 4 → fr' 9 = fr 9 → fr' 11 = fr 11 → fr' 19 = fr 19 → fr' 20 = fr 20 → Ret E a73 lim K fr' (G' ++ []) Z) :
    Ret E a73 lim (.code (.loop l73_1) :: .inBlock 2 :: K) fr G Z := by
  refine Ret_rounds (fun i => L.length - i) (fun i fr' G' => i ≤ L.length ∧ fr' 1 = .map (some R) ∧ fr' 4 = fr 4 ∧ fr' 9 = fr 9 ∧ fr' 10 = .pointer (some ⟨A10, 0, none⟩) ∧ fr' 11 = .pointer (some ⟨A11, 0, none⟩) ∧ fr' 19 = fr 19 ∧ fr' 20 = fr 20 ∧ fr' 30 = .slice pl L.length cl ∧ fr' 31 = .int .i64 (L.length : Int) ∧ fr' 32 = .int .i64 (i : Int) ∧
    Chg [A11] G G' ∧ okT ((L.take i).foldl (useX (posN P) bef) (List.replicate 50 (-1))) ∧ hget G' A11 = .cells false (encT ((L.take i).foldl (useX (posN P) bef) (List.replicate 50 (-1))))) 0
    ⟨Nat.zero_le _, f1, rfl, rfl, f10, f11, rfl, rfl, f30, f31, f32, Chg.refl, okT_rep, h11⟩ ?_
  intro i fr' G' ⟨hi, g1, g4, g9, g10, g11, g19, g20, g30, g31, g32, hC, ha, h11'⟩ hN
  have hEG : Chg [] H G' := hE.trans' hC fun j h1 h2 => by simp only [List.mem_singleton] at h1; omega
  have hl := hEG.len
  rw [Ret_code l73_1.eq_1]
  refine Ret_pad ?_
  by_cases hlt : i < L.length
  case neg =>
    obtain rfl : i = L.length := by omega
    rw [List.take_length] at ha h11'
    simp only [n73, r73, g1, g10, g11, g30, g31, g32, hlt, SB, Nat.reduceLT, callee, aOp, ne_eq, Nat.reduceEqDiff, aBin, aUn, if_true, if_false, reduceCtorEq, frame0, place, notTuple, Nat.reduceAdd, Nat.reduceLeDiff, resVal, dite_true, dite_false, Int.reduceEq, Int.reduceLT, Int.reduceLE]
    exact hR _ _ ha hC h11' (by rw [f1]; exact (by simp only [g1, FB, Nat.reduceEqDiff])) (by rw [← g4]; exact (by simp only [FB, Nat.reduceEqDiff])) (by rw [← g9]; exact (by simp only [FB, Nat.reduceEqDiff])) (by rw [f11]; exact (by simp only [g11, FB, Nat.reduceEqDiff])) (by rw [← g19]; exact (by simp only [FB, Nat.reduceEqDiff])) (by rw [← g20]; exact (by simp only [FB, Nat.reduceEqDiff]))
  have hsl := hEG.ext.sl hL
  have hld := fun X => (hsl.app X).loadCells encL_len hlt
  have hidx := fun c (k : IntKind) (H1 : Heap) => hsl.idx (c := c) (k := k) (H1 := H1) hlt
  have hw1 : IntKind.i64.wrap ((i : Int) + 1) = ((i + 1 : Nat) : Int) := wrap_nat (by omega)
  have h10' := hC.cells h10 (by simpa using hne)
  have q1 := fun X => (Ext.refl.app (X := X)).cells h10'
  have q2 := fun X => (Ext.refl.app (X := X)).cells h11'
  have hmG := hEG.get hm (hget_alive' hm) (by simp)
  have q3 : ∀ X, hget (G' ++ X) R = .map (posV P) := fun X => by rw [hget_old (hget_alive' hmG)]; exact hmG
  have hlG : lim ≤ G'.length := by omega
  have hlA : lim ≤ A11 := by omega
  have hin := gt_mem hlt
  have hf := hno.fine _ hin
  have i1 : posN P (gt L i).frm < 50 := hno.lt _ (hno.frm _ hin)
  have i2 : posN P (gt L i).dst < 50 := hno.lt _ (hno.dst _ hin)
  obtain ⟨j1, hj1⟩ := pos_yes (i := 0) (hno.frm _ hin)
  obtain ⟨j2, hj2⟩ := pos_yes (i := 0) (hno.dst _ hin)
  change findKey _ _ _ = some (some (j1, .int .i64 (posN P (gt L i).frm : Int))) at hj1
  change findKey _ _ _ = some (some (j2, .int .i64 (posN P (gt L i).dst : Int))) at hj2
  have hT := foldl_take (f := useX (posN P) bef) (b := List.replicate 50 (-1)) hlt
  generalize (L.take i).foldl (useX (posN P) bef) (List.replicate 50 (-1)) = aft at *
  have hbr := hb.2 (posN P (gt L i).dst)
  have har := ha.2 (posN P (gt L i).frm)
  have gb := encT_get hb.1 i2
  have ga := encT_get ha.1 i1
  have z1 : (0 : Int) ≤ (posN P (gt L i).frm : Int) := by omega
  have z2 : (0 : Int) ≤ (posN P (gt L i).dst : Int) := by omega
  have z3 : (posN P (gt L i).frm : Int) < 50 := by omega
  have z4 : (posN P (gt L i).dst : Int) < 50 := by omega
  have z5 : posN P (gt L i).dst ≤ 49 := by omega
  have z6 : posN P (gt L i).frm ≤ 49 := by omega
  by_cases hbn : bef.getD (posN P (gt L i).dst) (-1) < 0
  · have hu : useX (posN P) bef aft (gt L i) = aft := by unfold useX; rw [if_pos hbn]
    rw [hu] at hT
    simp only [n73, r73, g1, g10, g11, g30, g31, g32, hlt, hld, hidx, hw1, q1, q2, q3, hj1, hj2, gb, ga, z1, z2, z3, z4, z5, z6, encL_len, encL_0, encL_1, encL_2, encL_3, encL_4, encL_5, encL_6, encL_7, take_all, encT_len, Nat.mul_one, hlG, setAll_full, hbn, SB, Nat.reduceLT, callee, aOp, ne_eq, Nat.reduceEqDiff, aBin, aUn, if_true, if_false, reduceCtorEq, frame0, place, notTuple, Nat.reduceAdd, Nat.reduceLeDiff, resVal, dite_true, dite_false, Int.reduceEq, Int.reduceLT, Int.reduceLE]
    exact hN (i + 1) _ _ ⟨by omega, (by simp only [g1, FB, Nat.reduceEqDiff]), by rw [← g4]; exact (by simp only [FB, Nat.reduceEqDiff]), by rw [← g9]; exact (by simp only [FB, Nat.reduceEqDiff]), (by simp only [g10, FB, Nat.reduceEqDiff]), (by simp only [g11, FB, Nat.reduceEqDiff]), by rw [← g19]; exact (by simp only [FB, Nat.reduceEqDiff]), by rw [← g20]; exact (by simp only [FB, Nat.reduceEqDiff]), (by simp only [g30, FB, Nat.reduceEqDiff]), (by simp only [g31, FB, Nat.reduceEqDiff]), (by simp only [FB, Nat.reduceEqDiff]), hC.app, by rw [hT]; exact ha, by rw [hT]; exact (Ext.refl.app).cells h11'⟩ (by omega)
  unfold maxTime at hbr har
  have hnx := fun (H : Heap) (mp : Bool) (lim : Nat) (Q : Value → Heap → Prop) => last_ok (mp := mp) (lim := lim) (H := H) (Q := Q) (l := gt L i) (r := bef.getD (posN P (gt L i).dst) (-1)) hf (by omega) (by omega)
  cases hx : lastD (gt L i) (bef.getD (posN P (gt L i).dst) (-1)) with
  | none =>
    rw [hx] at hnx
    simp only [Option.map_none, depV] at hnx
    have hu : useX (posN P) bef aft (gt L i) = aft := by unfold useX; rw [if_neg hbn]; simp only [hx]
    rw [hu] at hT
    simp only [n73, r73, g1, g10, g11, g30, g31, g32, hlt, hld, hidx, hw1, q1, q2, q3, hj1, hj2, gb, ga, z1, z2, z3, z4, z5, z6, encL_len, encL_0, encL_1, encL_2, encL_3, encL_4, encL_5, encL_6, encL_7, take_all, encT_len, Nat.mul_one, hlG, setAll_full, hbn, hnx, SB, Nat.reduceLT, callee, aOp, ne_eq, Nat.reduceEqDiff, aBin, aUn, if_true, if_false, reduceCtorEq, frame0, place, notTuple, Nat.reduceAdd, Nat.reduceLeDiff, resVal, dite_true, dite_false, Int.reduceEq, Int.reduceLT, Int.reduceLE]
    exact hN (i + 1) _ _ ⟨by omega, (by simp only [g1, FB, Nat.reduceEqDiff]), by rw [← g4]; exact (by simp only [FB, Nat.reduceEqDiff]), by rw [← g9]; exact (by simp only [FB, Nat.reduceEqDiff]), (by simp only [g10, FB, Nat.reduceEqDiff]), (by simp only [g11, FB, Nat.reduceEqDiff]), by rw [← g19]; exact (by simp only [FB, Nat.reduceEqDiff]), by rw [← g20]; exact (by simp only [FB, Nat.reduceEqDiff]), (by simp only [g30, FB, Nat.reduceEqDiff]), (by simp only [g31, FB, Nat.reduceEqDiff]), (by simp only [FB, Nat.reduceEqDiff]), hC.app, by rw [hT]; exact ha, by rw [hT]; exact (Ext.refl.app).cells h11'⟩ (by omega)
  | some a =>
    rw [hx] at hnx
    simp only [Option.map_some, depV] at hnx
    obtain ⟨k1, k2, k3, k4⟩ := lastD_dep hf hx
    unfold maxTime at k3
    have hu := useX_max (aft := aft) hbn hx
    rw [hu] at hT
    unfold Fine at hf
    have wc : IntKind.i64.wrap (a - (gt L i).cut) = a - (gt L i).cut := wrap_id (by omega) (by omega)
    obtain ⟨G2, e2, h2, m2⟩ := mut_set (hget_alive h11') (.cells false (encT (aft.set (posN P (gt L i).frm) (max (aft.getD (posN P (gt L i).frm) (-1)) (a - (gt L i).cut)))))
    simp only [n73, r73, g1, g10, g11, g30, g31, g32, hlt, hld, hidx, hw1, q1, q2, q3, hj1, hj2, gb, ga, z1, z2, z3, z4, z5, z6, encL_len, encL_0, encL_1, encL_2, encL_3, encL_4, encL_5, encL_6, encL_7, take_all, encT_len, Nat.mul_one, hlG, setAll_full, hbn, hnx, wc, hlA, max_v, encT_set ha.1, e2, SB, Nat.reduceLT, callee, aOp, ne_eq, Nat.reduceEqDiff, aBin, aUn, if_true, if_false, reduceCtorEq, frame0, place, notTuple, Nat.reduceAdd, Nat.reduceLeDiff, resVal, dite_true, dite_false, Int.reduceEq, Int.reduceLT, Int.reduceLE]
    exact hN (i + 1) _ _ ⟨by omega, (by simp only [g1, FB, Nat.reduceEqDiff]), by rw [← g4]; exact (by simp only [FB, Nat.reduceEqDiff]), by rw [← g9]; exact (by simp only [FB, Nat.reduceEqDiff]), (by simp only [g10, FB, Nat.reduceEqDiff]), (by simp only [g11, FB, Nat.reduceEqDiff]), by rw [← g19]; exact (by simp only [FB, Nat.reduceEqDiff]), by rw [← g20]; exact (by simp only [FB, Nat.reduceEqDiff]), (by simp only [g30, FB, Nat.reduceEqDiff]), (by simp only [g31, FB, Nat.reduceEqDiff]), (by simp only [FB, Nat.reduceEqDiff]), (hC.mut m2 (.inl (by simp))).app, by rw [hT]; exact okT_set ha (by unfold maxTime; omega), by rw [hT]; exact (Ext.refl.app).cells h2⟩ (by omega)

theorem exaF_okT {P : List Int} {L : List Leg} {T : List Int} (hno : NetOk 50 P L (posN P)) (hT : okT T) : ∀ k, okT (exaF P L T k)
  | 0 => hT
  | k + 1 => by
    rw [exaF, stepX]
    have hb := exaF_okT hno hT k
    generalize exaF P L T k = bef at hb
    suffices h : ∀ (M : List Leg), (∀ l ∈ M, l ∈ L) → ∀ aft, okT aft → okT (M.foldl (useX (posN P) bef) aft) from h L (fun _ h => h) _ okT_rep
    intro M
    induction M with
    | nil => intro _ aft h; exact h
    | cons l M ih =>
      intro hM aft ha
      rw [List.foldl_cons]
      refine ih (fun x hx => hM x (List.mem_cons_of_mem _ hx)) _ ?_
      by_cases h0 : bef.getD (posN P l.dst) (-1) < 0
      · unfold useX; rw [if_pos h0]; exact ha
      · cases hx : lastD l (bef.getD (posN P l.dst) (-1)) with
        | none => unfold useX; rw [if_neg h0]; simp only [hx]; exact ha
        | some a =>
          rw [useX_max h0 hx]
          obtain ⟨k1, k2, k3, k4⟩ := lastD_dep (hno.fine _ (hM l (List.mem_cons_self ..))) hx
          have hf := hno.fine _ (hM l (List.mem_cons_self ..))
          have := ha.2 (posN P l.frm)
          unfold Fine at hf
          exact okT_set ha (by omega)

theorem Own1.le {α : Type} {lim e cap : Nat} {G : Heap} {enc : α → List Value} {p : Option Addr} {l : List α} (h : Own1 lim G enc e p cap l) {lim' : Nat} (hl : lim' ≤ lim) : Own1 lim' G enc e p cap l := by
  rcases h with h | ⟨R, h0, h1, h2, h3, h4⟩
  · exact .inl (h.le hl)
  · exact .inr ⟨R, h0, h1, h2, h3, by omega⟩
theorem latest_ok [OB] {lim R n0 : Nat} {T : List Int} {pp pl : Option Addr} {P : List Int} {L : List Leg} {cp cl : Nat} {H : Heap} {Q : Value → Heap → Prop} (hn : NetIn H pp pl P L) (hno : NetOk 50 P L (posN P)) (hm : hget H R = .map (posV P)) (hT : okT T) (hn0 : n0 < 2 ^ 30) (hnl : L.length < 2 ^ 62) (hlim : lim ≤ H.length)
    (hQ : ∀ H' p cap, Chg [] H H' → Own1 H.length H' encT 50 p cap ((List.range (n0 + 1)).map (exaF P L T)) → Q (.slice p (n0 + 1) cap) H') :
    CallR E false lim 73 [.agg (netV pp P.length cp pl L.length cl).toArray, .map (some R), .agg (encT T).toArray, .int .i64 (n0 : Int)] H Q := by
  refine runs' (by decide) e73 rfl ?_
  rw [b73, c73]
  simp only [n73, r73, zz50, encT_len, take_all, setAll_full, List.length_replicate, SB, Nat.reduceLT, callee, aOp, ne_eq, Nat.reduceEqDiff, aBin, aUn, if_true, if_false, reduceCtorEq, frame0, place, notTuple, Nat.reduceAdd, Nat.reduceLeDiff, resVal, dite_true, dite_false, Int.reduceEq, Int.reduceLT, Int.reduceLE]
  refine Ret_rounds (fun s : Nat × Option Addr × Nat => n0 - s.1) (fun s fr G => s.1 ≤ n0 ∧ fr 1 = .map (some R) ∧ fr 4 = .pointer (some ⟨H.length, 0, none⟩) ∧ fr 9 = .slice s.2.1 (s.1 + 1) s.2.2 ∧ fr 19 = .int .i64 (n0 : Int) ∧ fr 20 = .int .i64 (s.1 : Int) ∧ hget G H.length = .cells false (netV pp P.length cp pl L.length cl) ∧ Chg [] H G ∧ Own1 (H.length + 1) G encT 50 s.2.1 s.2.2 ((List.range (s.1 + 1)).map (exaF P L T))) (0, some ⟨H.length + 2, 0, none⟩, 1)
    ⟨Nat.zero_le _, (by simp only [FB, Nat.reduceEqDiff]), (by simp only [FB, Nat.reduceEqDiff]), by rfl, (by simp only [FB, Nat.reduceEqDiff]), by rfl, hget_new0, Chg.refl.app, .inr ⟨H.length + 2, rfl, rfl, by show (1 : Nat) < 2 ^ 62; decide, by rw [hget_new]; simp [exaF], by omega⟩⟩ ?_
  rintro ⟨k, p, cap⟩ fr G ⟨hk, f1, f4, f9, f19, f20, hB, hE, hO⟩ hN
  simp only at hk f9 f20 hO
  have hl := hE.len
  have hok := exaF_okT hno hT k
  rw [Ret_code l73_2.eq_1]
  refine Ret_pad ?_
  by_cases hkn : k < n0
  case neg =>
    obtain rfl : k = n0 := by omega
    simp only [n73, r73, f1, f4, f9, f19, f20, hkn, SB, Nat.reduceLT, callee, aOp, ne_eq, Nat.reduceEqDiff, aBin, aUn, if_true, if_false, reduceCtorEq, frame0, place, notTuple, Nat.reduceAdd, Nat.reduceLeDiff, resVal, dite_true, dite_false, Int.reduceEq, Int.reduceLT, Int.reduceLE]
    exact hQ _ _ _ hE.app ((hO.chg (A := []) (Chg.refl.app) (by simp)).le (by omega))
  have hlen : ((List.range (k + 1)).map (exaF P L T)).length = k + 1 := by simp
  have hgt : gt ((List.range (k + 1)).map (exaF P L T)) k = exaF P L T k := by
    rw [gt_lt (by rw [hlen]; omega)]; simp
  have hS := hO.sl encT_len
  have hld := fun X => (hS.app X).loadCells encT_len (i := k) (by rw [hlen]; omega)
  have hidx := fun c (kk : IntKind) (H1 : Heap) => hS.idx (c := c) (k := kk) (H1 := H1) (i := k) (by rw [hlen]; omega)
  rw [hlen] at hidx
  rw [hgt] at hld
  have hw1 : IntKind.i64.wrap (((k + 1 : Nat) : Int) - 1) = (k : Int) := by rw [wrap_id (by omega) (by omega)]; omega
  have hw2 : IntKind.i64.wrap ((k : Int) + 1) = ((k + 1 : Nat) : Int) := wrap_nat (by omega)
  have hlG : lim ≤ G.length := by omega
  have h67 : ∀ (H : Heap) (mp : Bool) (lim : Nat) (Q : Value → Heap → Prop), CallR E mp lim 67 [.int .i64 0, .int .i64 (-1)] H Q = Q (.agg (encT (List.replicate 50 (-1))).toArray) H := fun H mp lim Q => one_ok (mp := mp) (lim := lim) (H := H) (Q := Q) (i := 0) (t := -1) (by decide)
  have hBX := fun X => (Ext.refl.app (X := X)).cells hB
  simp only [n73, r73, f1, f4, f9, f19, f20, hkn, h67, hBX, netV_len, netV_0, netV_1, zz50, encT_len, take_all, setAll_full, List.length_replicate, hw1, hidx, hld, hlG, show lim ≤ G.length + 1 by omega, SB, Nat.reduceLT, callee, aOp, ne_eq, Nat.reduceEqDiff, aBin, aUn, if_true, if_false, reduceCtorEq, frame0, place, notTuple, Nat.reduceAdd, Nat.reduceLeDiff, resVal, dite_true, dite_false, Int.reduceEq, Int.reduceLT, Int.reduceLE]
  refine latest_inner (cl := cl) (A10 := G.length) (A11 := G.length + 1) hno hn.sl hnl hm hlim hok hE.app (by omega) (by omega) (by omega) hget_new0 hget_new (by simp only [f1, FB, Nat.reduceEqDiff]) (by simp only [FB, Nat.reduceEqDiff]) (by simp only [FB, Nat.reduceEqDiff]) (by simp only [FB, Nat.reduceEqDiff]) (by simp only [FB, Nat.reduceEqDiff]) (by simp only [FB, Nat.reduceEqDiff]) fun fr' G' hok' hC h11 k1 k4 k9 k11 k19 k20 => ?_
  have k1' : fr' 1 = .map (some R) := k1.trans (by simp only [f1, FB, Nat.reduceEqDiff])
  have k4' : fr' 4 = .pointer (some ⟨H.length, 0, none⟩) := k4.trans (by simp only [f4, FB, Nat.reduceEqDiff])
  have k9' : fr' 9 = .slice p (k + 1) cap := k9.trans (by simp only [f9, FB, Nat.reduceEqDiff])
  have k11' : fr' 11 = .pointer (some ⟨G.length + 1, 0, none⟩) := k11.trans (by simp only [FB, Nat.reduceEqDiff])
  have k19' : fr' 19 = .int .i64 (n0 : Int) := k19.trans (by simp only [f19, FB, Nat.reduceEqDiff])
  have k20' : fr' 20 = .int .i64 (k : Int) := k20.trans (by simp only [f20, FB, Nat.reduceEqDiff])
  have h11X := fun X => (Ext.refl.app (X := X)).cells h11
  have hC' : Chg [] G G' := hC.pre.mono fun j hj h => by simp only [List.mem_singleton] at h; omega
  have hl2 := hC'.len
  have hO' := hO.chg hC' (by simp)
  change okT (exaF P L T (k + 1)) at hok'
  change hget G' (G.length + 1) = .cells false (encT (exaF P L T (k + 1))) at h11
  change ∀ X, hget (G' ++ X) (G.length + 1) = .cells false (encT (exaF P L T (k + 1))) at h11X
  have hHG : H.length < G.length := hget_alive hB
  obtain ⟨G3, e3, O3, C3, hold3, l3, _⟩ := hO'.step (lim' := lim) (bytes := 400) (by omega) encT_len (by decide) (exaF P L T (k + 1)) (by rw [hlen]; unfold maxBytes; omega) (by rw [hlen]; omega) (by omega) [.cells false (encT (exaF P L T (k + 1)))] G'.length 1 hget_new0
  rw [hlen] at e3
  have hlG' : lim ≤ G'.length := by omega
  simp only [n73, r73, k1', k4', k9', k11', k19', k20', h11X, encT_len, take_all, zz50, setAll_full, List.length_replicate, e3, hw2, hlG', SB, Nat.reduceLT, callee, aOp, ne_eq, Nat.reduceEqDiff, aBin, aUn, if_true, if_false, reduceCtorEq, frame0, place, notTuple, Nat.reduceAdd, Nat.reduceLeDiff, resVal, dite_true, dite_false, Int.reduceEq, Int.reduceLT, Int.reduceLE]
  refine hN (k + 1, _, _) _ _ ⟨by omega, (by simp only [k1', FB, Nat.reduceEqDiff]), (by simp only [k4', FB, Nat.reduceEqDiff]), by rfl, (by simp only [k19', FB, Nat.reduceEqDiff]), (by simp only [FB, Nat.reduceEqDiff]), ?_, C3 _ _ (by omega) (hE.trans hC'), .inl ?_⟩ (by show n0 - (k + 1) < n0 - k; omega)
  · rw [List.append_nil] at hold3
    rw [List.append_nil, hold3 H.length (by omega) fun a ha e => by have := (hO'.block ha).1; omega]
    exact hC'.cells hB (by simp)
  · rw [List.range_succ, List.map_append]
    exact O3
end Go.Proofs.Ytcmhnincbkbncaa.Fn
namespace Go.Proofs.Ytcmhnincbkbncaa.Fn
open Go.AM Go.AM.Sym Go.Net
set_option maxRecDepth 100000
set_option linter.unusedVariables false
set_option linter.unusedSimpArgs false
set_option maxHeartbeats 4000000

theorem at_ok [OB] {mp : Bool} {lim A B i : Nat} {o1 o2 : Bool} {t : Int} {T : List Int} {H : Heap} {Q : Value → Heap → Prop} (hi : i < 50) (hT : T.length = 50) (hA : hget H A = .cells o1 [.int .i64 (i : Int)]) (hB : hget H B = .cells o2 [.int .i64 t]) :
    CallR E mp lim 72 [.agg (encT T).toArray, .pointer (some ⟨A, 0, none⟩), .pointer (some ⟨B, 0, none⟩)] H Q = Q (.bool (decide (T.getD i (-1) = t))) H := by
  refine pc (by decide) e72 rfl rfl ?_
  rw [b72, c72]
  have q1 := fun X => (Ext.refl.app (X := X)).cells hA
  have q2 := fun X => (Ext.refl.app (X := X)).cells hB
  have z1 : (0 : Int) ≤ (i : Int) := by omega
  have z2 : (i : Int) < 50 := by omega
  have z3 : i ≤ 49 := by omega
  have gt := encT_get hT hi
  simp only [n72, r72, q1, q2, encT_len, take_all, gt, z1, z2, z3, Nat.mul_one, SB, Nat.reduceLT, callee, aOp, ne_eq, Nat.reduceEqDiff, aBin, aUn, if_true, if_false, reduceCtorEq, frame0, place, notTuple, Nat.reduceAdd, Nat.reduceLeDiff, resVal, dite_true, dite_false, Int.reduceEq, Int.reduceLT, Int.reduceLE]

theorem index_ok [OB] {mp : Bool} {lim A B i k cap : Nat} {p : Option Addr} {o1 o2 : Bool} {t : Int} {Ts : List (List Int)} {H : Heap} {Q : Value → Heap → Prop} (hi : i < 50) (hA : hget H A = .cells o1 [.int .i64 (i : Int)]) (hB : hget H B = .cells o2 [.int .i64 t]) (hs : Sl H encT 50 p Ts) (hTs : ∀ T ∈ Ts, T.length = 50) (hn : Ts.length < 2 ^ 62)
    (hk : k < Ts.length) (hkt : (gt Ts k).getD i (-1) = t) (hno : ∀ j, j < k → (gt Ts j).getD i (-1) ≠ t) :
    CallR E mp lim 71 [.slice p Ts.length cap, .func (.func 72) #[] #[.pointer (some ⟨A, 0, none⟩), .pointer (some ⟨B, 0, none⟩)]] H Q = Q (.int .i64 (k : Int)) H := by
  refine pc (by decide) e71 rfl rfl ?_
  rw [b71, c71]
  simp only [n71, r71, SB, Nat.reduceLT, callee, aOp, ne_eq, Nat.reduceEqDiff, aBin, aUn, if_true, if_false, reduceCtorEq, frame0, place, notTuple, Nat.reduceAdd, Nat.reduceLeDiff, resVal, dite_true, dite_false, Int.reduceEq, Int.reduceLT, Int.reduceLE]
  refine Ret_rounds (fun j => Ts.length - j) (fun j fr G => j ≤ k ∧ fr 0 = .slice p Ts.length cap ∧ fr 1 = .func (.func 72) #[] #[.pointer (some ⟨A, 0, none⟩), .pointer (some ⟨B, 0, none⟩)] ∧ fr 7 = .int .i64 (Ts.length : Int) ∧ fr 8 = .int .i64 (j : Int) ∧ Ext H G) 0 ⟨Nat.zero_le _, (by simp only [FB, Nat.reduceEqDiff]), (by simp only [FB, Nat.reduceEqDiff]), (by simp only [FB, Nat.reduceEqDiff]), by rfl, Ext.refl.app⟩ ?_
  intro j fr G ⟨hj, f0, f1, f7, f8, hE⟩ hN
  rw [Ret_code l71_1.eq_1]
  refine Ret_pad ?_
  have hlt : j < Ts.length := by omega
  have hld := fun X => ((hE.sl hs).app X).loadCells encT_len hlt
  have hidx := fun c (kk : IntKind) (H1 : Heap) => (hE.sl hs).idx (c := c) (k := kk) (H1 := H1) hlt
  have hw1 : IntKind.i64.wrap ((j : Int) + 1) = ((j + 1 : Nat) : Int) := wrap_nat (by omega)
  have hat := fun X (mp : Bool) (lim : Nat) (Q : Value → Heap → Prop) => at_ok (mp := mp) (lim := lim) (Q := Q) (H := G ++ X) (T := gt Ts j) hi (hTs _ (gt_mem hlt)) ((hE.app).cells hA) ((hE.app).cells hB)
  by_cases he : j = k
  · subst he
    rw [decide_eq_true hkt] at hat
    simp only [n71, r71, f0, f1, f7, f8, hlt, hld, hidx, hw1, hat, SB, Nat.reduceLT, callee, aOp, ne_eq, Nat.reduceEqDiff, aBin, aUn, if_true, if_false, reduceCtorEq, frame0, place, notTuple, Nat.reduceAdd, Nat.reduceLeDiff, resVal, dite_true, dite_false, Int.reduceEq, Int.reduceLT, Int.reduceLE]
  · rw [decide_eq_false (p := (gt Ts j).getD i (-1) = t) (hno j (by omega))] at hat
    simp only [n71, r71, f0, f1, f7, f8, hlt, hld, hidx, hw1, hat, SB, Nat.reduceLT, callee, aOp, ne_eq, Nat.reduceEqDiff, aBin, aUn, if_true, if_false, reduceCtorEq, frame0, place, notTuple, Nat.reduceAdd, Nat.reduceLeDiff, resVal, dite_true, dite_false, Int.reduceEq, Int.reduceLT, Int.reduceLE]
    exact hN (j + 1) _ _ ⟨by omega, (by simp only [f0, FB, Nat.reduceEqDiff]), (by simp only [f1, FB, Nat.reduceEqDiff]), (by simp only [f7, FB, Nat.reduceEqDiff]), (by simp only [FB, Nat.reduceEqDiff]), hE.app⟩ (by omega)

/-- The elements of a slice, one after the other. -/
theorem values_rule [OB] {lim Y Bx c : Nat} {p : Option Addr} {o : Bool} {L : List Leg} {H : Heap} {Q : Value → Heap → Prop} (I : Nat → Heap → Prop) (hnL : L.length < 2 ^ 62)
    (hI : ∀ i H H', I i H → Chg [] H H' → I i H')
    (hsl : ∀ i H, I i H → Sl H encL 8 p L ∧ hget H Bx = .cells o [.slice p L.length c] ∧ lim ≤ H.length)
    (hround : ∀ i H, i < L.length → I i H → CallY E false lim Y [.agg (encL (gt L i)).toArray] H fun v H' => v = .bool true ∧ I (i + 1) H')
    (h0 : I 0 H) (hQ : ∀ H', I L.length H' → Q (.tuple #[]) H') :
    CallR E false lim 107 [.func (.yield Y) #[] #[], .pointer (some ⟨Bx, 0, none⟩)] H Q := by
  refine runs' (by decide) e107 rfl ?_
  rw [b107, c107]
  have hBX := fun X => (Ext.refl.app (X := X)).cells (hsl _ _ h0).2.1
  simp only [n107, r107, hBX, SB, Nat.reduceLT, callee, aOp, ne_eq, Nat.reduceEqDiff, aBin, aUn, if_true, if_false, reduceCtorEq, frame0, place, notTuple, Nat.reduceAdd, Nat.reduceLeDiff, resVal, dite_true, dite_false, Int.reduceEq, Int.reduceLT, Int.reduceLE]
  refine Ret_rounds (fun i => L.length - i) (fun i fr G => i ≤ L.length ∧ fr 0 = .func (.yield Y) #[] #[] ∧ fr 5 = .slice p L.length c ∧ fr 6 = .int .i64 (L.length : Int) ∧ fr 7 = .int .i64 (i : Int) ∧ I i G) 0 ⟨Nat.zero_le _, (by simp only [FB, Nat.reduceEqDiff]), (by simp only [FB, Nat.reduceEqDiff]), (by simp only [FB, Nat.reduceEqDiff]), by rfl, hI _ _ _ h0 (Chg.refl.app)⟩ ?_
  intro i fr G ⟨hi, f0, f5, f6, f7, hIG⟩ hN
  rw [Ret_code l107_1.eq_1]
  refine Ret_pad ?_
  obtain ⟨hs, hB, hlG⟩ := hsl _ _ hIG
  by_cases hlt : i < L.length
  case neg =>
    obtain rfl : i = L.length := by omega
    simp only [n107, r107, f0, f5, f6, f7, hlt, SB, Nat.reduceLT, callee, aOp, ne_eq, Nat.reduceEqDiff, aBin, aUn, if_true, if_false, reduceCtorEq, frame0, place, notTuple, Nat.reduceAdd, Nat.reduceLeDiff, resVal, dite_true, dite_false, Int.reduceEq, Int.reduceLT, Int.reduceLE]
    exact hQ _ (hI _ _ _ hIG (Chg.refl.app))
  have hld := fun X => (hs.app X).loadCells encL_len hlt
  have hidx := fun c (kk : IntKind) (H1 : Heap) => hs.idx (c := c) (k := kk) (H1 := H1) hlt
  have hw1 : IntKind.i64.wrap ((i : Int) + 1) = ((i + 1 : Nat) : Int) := wrap_nat (by omega)
  simp only [n107, r107, f0, f5, f6, f7, hlt, hld, hidx, encL_len, encL_0, encL_1, encL_2, encL_3, encL_4, encL_5, encL_6, encL_7, take_all, hlG, setAll_full, SB, Nat.reduceLT, callee, aOp, ne_eq, Nat.reduceEqDiff, aBin, aUn, if_true, if_false, reduceCtorEq, frame0, place, notTuple, Nat.reduceAdd, Nat.reduceLeDiff, resVal, dite_true, dite_false, Int.reduceEq, Int.reduceLT, Int.reduceLE]
  refine (hround i _ hlt (hI _ _ _ hIG (Chg.refl.app))).mono fun v H' hv => ?_
  obtain ⟨rfl, hI'⟩ := hv
  refine Ret_pad ?_
  simp only [n107, r107, f0, f5, f6, f7, hw1, SB, Nat.reduceLT, callee, aOp, ne_eq, Nat.reduceEqDiff, aBin, aUn, if_true, if_false, reduceCtorEq, frame0, place, notTuple, Nat.reduceAdd, Nat.reduceLeDiff, resVal, dite_true, dite_false, Int.reduceEq, Int.reduceLT, Int.reduceLE]
  exact hN (i + 1) _ _ ⟨by omega, (by simp only [f0, FB, Nat.reduceEqDiff]), (by simp only [f5, FB, Nat.reduceEqDiff]), (by simp only [f6, FB, Nat.reduceEqDiff]), (by simp only [FB, Nat.reduceEqDiff]), hI _ _ _ hI' (Chg.refl.app)⟩ (by omega)

theorem append_key [OB] {lim Bx c : Nat} {p : Option Addr} {o : Bool} {L : List Leg} {H : Heap} {Z : Value → Heap → Prop} {fr0 : Nat → Value} {K' : List AItem} (hB : hget H Bx = .cells o [.slice p L.length c]) (hs : Sl H encL 8 p L) (hn : L.length < 2 ^ 30) (hlim : lim ≤ H.length)
    (f2 : fr0 2 = .pointer (some ⟨H.length, 0, none⟩))
    (hQ : ∀ H' q cap, Chg [] H H' → Own (H.length + 3) H' encL 8 q cap L → hget H' H.length = .cells false [.slice q L.length cap] → hget H' (H.length + 1) = .dfr → H.length + 3 ≤ H'.length → Ret E a121 lim (K' ++ [.mark (H.length + 1)]) fr0 (H' ++ []) Z) :
    CallR E false lim 107 [.func (.yield (H.length + 2)) #[] #[], .pointer (some ⟨Bx, 0, none⟩)] (H ++ [.cells false [.slice none 0 0], .dfr, .loop ⟨0, none, fr0, 13, [7], ga121_1, gb121_1⟩]) fun _ H2 =>
      endK (hget H2 (H.length + 1 + 1)) fun x => Ret E a121 lim (pendI x ++ (K' ++ [.mark (H.length + 1)])) fr0 (H2.set (H.length + 1 + 1) .dead) Z := by
  refine values_rule (c := c) (p := p) (o := o) (L := L) (fun i G => ∃ q cap, hget G H.length = .cells false [.slice q i cap] ∧ Own (H.length + 3) G encL 8 q cap (L.take i) ∧ hget G (H.length + 1) = .dfr ∧ hget G (H.length + 2) = .loop ⟨0, none, fr0, 13, [7], ga121_1, gb121_1⟩ ∧ Chg [] H G ∧ H.length + 3 ≤ G.length ∧ i ≤ L.length) (by omega) ?_ ?_ ?_ ?_ ?_
  · rintro i G G' ⟨q, cap, h1, h2, h3, h4, h5, h6, h7⟩ hC
    have := hC.len
    exact ⟨q, cap, hC.cells h1 (by simp), h2.chg hC (by simp), hC.get h3 (by omega) (by simp), hC.get h4 (by omega) (by simp), h5.trans hC, by omega, h7⟩
  · rintro i G ⟨q, cap, h1, h2, h3, h4, h5, h6, h7⟩
    exact ⟨h5.ext.sl hs, h5.cells hB (by simp), by omega⟩
  · rintro i G hlt ⟨q, cap, h2, hO, hd, hy, hC, hl, _⟩
    rw [CallY_run (x := ⟨0, none, fr0, 13, [7], ga121_1, gb121_1⟩) hy (by omega) rfl (by rfl), setParams_one]
    rw [Ret_code ga121_1.eq_1]
    refine Ret_pad ?_
    obtain ⟨G1, e1, h1, m1⟩ := mut_set (G := G) (R := H.length + 2) (by omega) (.loop ⟨1, none, fr0, 13, [7], ga121_1, gb121_1⟩)
    have gY := fun X => (Ext.refl.app (X := X)).get' hy (by omega)
    have hlG : lim ≤ G.length := by omega
    simp only [f2, encL_len, encL_0, encL_1, encL_2, encL_3, encL_4, encL_5, encL_6, encL_7, take_all, setAll_full, hlG, gY, e1, show lim ≤ H.length + 2 by omega, SB, Nat.reduceLT, callee, aOp, ne_eq, Nat.reduceEqDiff, aBin, aUn, if_true, if_false, reduceCtorEq, frame0, place, notTuple, Nat.reduceAdd, Nat.reduceLeDiff, resVal, dite_true, dite_false, Int.reduceEq, Int.reduceLT, Int.reduceLE]
    rw [Ret_code gb121_1.eq_1]
    have hO1 : Own (H.length + 3) G1 encL 8 q cap (L.take i) := hO.mut m1 fun a e => by have := (hO.block e).1; omega
    have hlen : (L.take i).length = i := by rw [List.length_take]; omega
    obtain ⟨G3, e3, O3, C3, hold3, l3, hn3⟩ := hO1.step (lim' := lim) (bytes := 64) (by omega) encL_len (by decide) (gt L i) (by rw [hlen]; unfold maxBytes; omega) (by rw [hlen]; omega) (by rw [m1.len]; omega) [.cells false (encL (gt L i)), .cells false (encL (gt L i))] (G1.length + 1) 1 hget_new
    rw [hlen] at e3
    rw [m1.len] at e3 O3 l3
    simp only [List.length_cons, List.length_nil] at e3 l3
    have b2 := fun X => (Ext.refl.app (X := X)).cells (m1.cells h2 (by omega))
    have c5 : ∀ X : Heap, hget (G1 ++ X) G.length = X.getD 0 .dead := (len_rules m1.len).2.2.1
    have c6 : ∀ (X : Heap) (j : Nat), hget (G1 ++ X) (G.length + j) = X.getD j .dead := (len_rules m1.len).2.1
    have nb : ∀ j, j < H.length + 3 → ∀ a, q = some a → j ≠ a.block := fun j hj a e hh => by have := (hO.block e).1; omega
    have t3 : hget (G3 ++ []) H.length = .cells false [.slice q i cap] := (hold3 _ (by rw [m1.len]; omega) (nb _ (by omega))).trans (m1.cells h2 (by omega))
    have y3 : hget (G3 ++ []) (H.length + 2) = _ := (hold3 _ (by rw [m1.len]; omega) (nb _ (by omega))).trans h1
    have d3 : hget (G3 ++ []) (H.length + 1) = _ := (hold3 _ (by rw [m1.len]; omega) (nb _ (by omega))).trans (m1.alive hd (by omega))
    rw [List.append_nil] at t3 y3 d3 O3
    obtain ⟨G4, e4, h4, m4⟩ := mut_set (hget_alive t3) (.cells false [.slice (some ⟨G.length + 2, 0, none⟩) (i + 1) (loose 8)])
    have y4' := m4.alive y3 (by omega)
    have y4 := fun X => (Ext.refl.app (X := X)).get' y4' (by rw [m4.len]; omega)
    obtain ⟨G5, e5, h5, m5⟩ := mut_set (G := G4) (R := H.length + 2) (by rw [m4.len]; omega) (.loop ⟨0, none, fr0, 13, [7], ga121_1, gb121_1⟩)
    have t3X := fun X => (Ext.refl.app (X := X)).cells t3
    simp only [f2, encL_len, encL_0, encL_1, encL_2, encL_3, encL_4, encL_5, encL_6, encL_7, take_all, setAll_full, hlG, b2, c5, c6, m1.len, e3, e4, e5, y4, t3X, show lim ≤ H.length by omega, show lim ≤ H.length + 2 by omega, SB, Nat.reduceLT, callee, aOp, ne_eq, Nat.reduceEqDiff, aBin, aUn, if_true, if_false, reduceCtorEq, frame0, place, notTuple, Nat.reduceAdd, Nat.reduceLeDiff, resVal, dite_true, dite_false, Int.reduceEq, Int.reduceLT, Int.reduceLE]
    have cH := C3 [] H (by omega) (hC.mut m1 (.inr (by omega)))
    rw [List.append_nil] at cH
    have l5 : G5.length = G3.length := by rw [m5.len, m4.len]
    refine ⟨_, _, (Ext.refl.app).cells (m5.cells h4 (by omega)), ?_, (Ext.refl.app).get' (m5.alive (m4.alive d3 (by omega)) (by omega)) (by omega), (Ext.refl.app).get' h5 (by omega), ((cH.mut m4 (.inr (by omega))).mut m5 (.inr (by omega))).app, by omega, by omega⟩
    rw [take_snoc hlt]
    exact ((O3.mut m4 fun a e => by cases e; show G.length + 2 ≠ _; omega).mut m5 fun a e => by cases e; show G.length + 2 ≠ _; omega).app _
  · exact ⟨none, 0, hget_new0, .nil, by rw [hget_new]; rfl, by rw [hget_new]; rfl, Chg.refl.app, by simp, Nat.zero_le _⟩
  · rintro H' ⟨q, cap, h1, h2, h3, h4, h5, h6, _⟩
    rw [List.take_length] at h2
    rw [endK_congr (show hget H' (H.length + 1 + 1) = _ from h4), endK_0]
    show Ret E a121 lim (K' ++ [.mark (H.length + 1)]) fr0 _ _
    have hC : Mut H' (H'.set (H.length + 1 + 1) .dead) (H.length + 1 + 1) := ⟨by simp, fun j hj => hget_set_ne hj⟩
    refine Ret_pad ?_
    exact hQ _ q cap (h5.mut hC (.inr (by omega))) (h2.mut hC fun a e => by have := (h2.block e).1; omega) (hC.cells h1 (by omega)) (hC.alive h3 (by omega)) (by rw [hC.len]; omega)

theorem append_seq [OB] {lim Bx c : Nat} {p : Option Addr} {o : Bool} {L : List Leg} {H : Heap} {Q : Value → Heap → Prop} (hB : hget H Bx = .cells o [.slice p L.length c]) (hs : Sl H encL 8 p L) (hn : L.length < 2 ^ 30) (hlim : lim ≤ H.length)
    (hQ : ∀ H' q cap, Chg [] H H' → Own (H.length + 3) H' encL 8 q cap L → Q (.slice q L.length cap) H') :
    CallR E false lim 121 [.slice none 0 0, .func (.func 107) #[] #[.pointer (some ⟨Bx, 0, none⟩)]] H Q := by
  refine runs' (by decide) e121 rfl ?_
  rw [b121, c121]
  have hlen : (H ++ [Blk.cells false [Value.slice none 0 0]]).length = H.length + 1 := by simp
  simp only [n121, r121, SB, Nat.reduceLT, callee, aOp, ne_eq, Nat.reduceEqDiff, aBin, aUn, if_true, if_false, reduceCtorEq, frame0, place, notTuple, Nat.reduceAdd, Nat.reduceLeDiff, resVal, dite_true, dite_false, Int.reduceEq, Int.reduceLT, Int.reduceLE]
  rw [hlen]
  refine append_key hB hs hn hlim (by simp only [FB, Nat.reduceEqDiff]) fun H' q cap hC hO h2 hd hl => ?_
  have h2X := fun X => (Ext.refl.app (X := X)).cells h2
  have hdX := fun X => (Ext.refl.app (X := X)).get' hd (by omega)
  show Ret E a121 lim (.inBlock 0 :: .code _ :: .code .retM :: .mark (H.length + 1) :: []) _ _ _
  simp only [n121, r121, h2X, hdX, show lim ≤ H.length + 1 by omega, SB, Nat.reduceLT, callee, aOp, ne_eq, Nat.reduceEqDiff, aBin, aUn, if_true, if_false, reduceCtorEq, frame0, place, notTuple, Nat.reduceAdd, Nat.reduceLeDiff, resVal, dite_true, dite_false, Int.reduceEq, Int.reduceLT, Int.reduceLE]
  have hm : Mut (H' ++ []) ((H' ++ []).set (H.length + 1) .dead) (H.length + 1) := ⟨by simp, fun j hj => hget_set_ne hj⟩
  exact hQ _ _ _ (hC.app.mut hm (.inr (by omega))) ((hO.app []).mut hm fun a e => by have := (hO.block e).1; omega)

theorem collect_ok [OB] {lim Bx c : Nat} {p : Option Addr} {o : Bool} {L : List Leg} {H : Heap} {Q : Value → Heap → Prop} (hB : hget H Bx = .cells o [.slice p L.length c]) (hs : Sl H encL 8 p L) (hn : L.length < 2 ^ 30) (hlim : lim ≤ H.length)
    (hQ : ∀ H' q cap, Chg [] H H' → Own (H.length + 3) H' encL 8 q cap L → Q (.slice q L.length cap) H') :
    CallR E false lim 105 [.func (.func 107) #[] #[.pointer (some ⟨Bx, 0, none⟩)]] H Q := by
  refine runs' (by decide) e105 rfl ?_
  rw [b105, c105]
  simp only [n105, r105, SB, Nat.reduceLT, callee, aOp, ne_eq, Nat.reduceEqDiff, aBin, aUn, if_true, if_false, reduceCtorEq, frame0, place, notTuple, Nat.reduceAdd, Nat.reduceLeDiff, resVal, dite_true, dite_false, Int.reduceEq, Int.reduceLT, Int.reduceLE]
  rw [List.append_nil]
  refine append_seq hB hs hn hlim fun H' q cap hC hO => ?_
  refine Ret_pad ?_
  simp only [n105, r105, SB, Nat.reduceLT, callee, aOp, ne_eq, Nat.reduceEqDiff, aBin, aUn, if_true, if_false, reduceCtorEq, frame0, place, notTuple, Nat.reduceAdd, Nat.reduceLeDiff, resVal, dite_true, dite_false, Int.reduceEq, Int.reduceLT, Int.reduceLE]
  exact hQ _ _ _ hC.app (hO.app _)
end Go.Proofs.Ytcmhnincbkbncaa.Fn
namespace Go.Proofs.Ytcmhnincbkbncaa.Fn
open Go.AM Go.AM.Sym Go.Net
set_option maxRecDepth 100000
set_option linter.unusedVariables false
set_option linter.unusedSimpArgs false
set_option maxHeartbeats 4000000

theorem isleg_ok [OB] {mp : Bool} {lim A : Nat} {o : Bool} {t : Int} {l : Leg} {H : Heap} {Q : Value → Heap → Prop} (hA : hget H A = .cells o [.int .i64 t]) :
    CallR E mp lim 69 [.agg (encL l).toArray, .pointer (some ⟨A, 0, none⟩)] H Q = Q (.bool (decide (l.id = t))) H := by
  refine pc (by decide) e69 rfl rfl ?_
  rw [b69, c69]
  have q1 := fun X => (Ext.refl.app (X := X)).cells hA
  simp only [n69, r69, q1, encL_len, encL_0, encL_1, encL_2, encL_3, encL_4, encL_5, encL_6, encL_7, take_all, SB, Nat.reduceLT, callee, aOp, ne_eq, Nat.reduceEqDiff, aBin, aUn, if_true, if_false, reduceCtorEq, frame0, place, notTuple, Nat.reduceAdd, Nat.reduceLeDiff, resVal, dite_true, dite_false, Int.reduceEq, Int.reduceLT, Int.reduceLE]

/-- The place of the leg with an ID, or -1. -/
def legAt (L : List Leg) (t : Int) : Int := if ∃ l ∈ L, l.id = t then ((L.findIdx fun l => l.id = t : Nat) : Int) else -1
theorem findIdx_at {L : List Leg} {t : Int} {i : Nat} (h : i < L.length) (he : (gt L i).id = t) (hno : ∀ j, j < i → (gt L j).id ≠ t) : L.findIdx (fun l => l.id = t) = i := by
  rw [gt_lt h] at he
  have h1 : L.findIdx (fun l => l.id = t) ≤ i := by
    apply Decidable.byContradiction; intro hc
    have := List.not_of_lt_findIdx (xs := L) (p := fun l => l.id = t) (i := i) (by omega)
    simp [he] at this
  rcases Nat.lt_or_ge (L.findIdx (fun l => l.id = t)) i with h2 | h2
  · have h3 : L.findIdx (fun l => l.id = t) < L.length := by omega
    have := List.findIdx_getElem (xs := L) (p := fun l => decide (l.id = t)) (w := h3)
    exact absurd (by simpa using this) (fun e => hno _ h2 (by rw [gt_lt h3]; exact e))
  · omega
theorem legindex_ok [OB] {mp : Bool} {lim A cap : Nat} {o : Bool} {p : Option Addr} {t : Int} {L : List Leg} {H : Heap} {Q : Value → Heap → Prop} (hA : hget H A = .cells o [.int .i64 t]) (hs : Sl H encL 8 p L) (hn : L.length < 2 ^ 62) :
    CallR E mp lim 68 [.slice p L.length cap, .func (.func 69) #[] #[.pointer (some ⟨A, 0, none⟩)]] H Q = Q (.int .i64 (legAt L t)) H := by
  refine pc (by decide) e68 rfl rfl ?_
  rw [b68, c68]
  simp only [n68, r68, SB, Nat.reduceLT, callee, aOp, ne_eq, Nat.reduceEqDiff, aBin, aUn, if_true, if_false, reduceCtorEq, frame0, place, notTuple, Nat.reduceAdd, Nat.reduceLeDiff, resVal, dite_true, dite_false, Int.reduceEq, Int.reduceLT, Int.reduceLE]
  refine Ret_rounds (fun j => L.length - j) (fun j fr G => j ≤ L.length ∧ fr 0 = .slice p L.length cap ∧ fr 1 = .func (.func 69) #[] #[.pointer (some ⟨A, 0, none⟩)] ∧ fr 7 = .int .i64 (L.length : Int) ∧ fr 8 = .int .i64 (j : Int) ∧ Ext H G ∧ ∀ i, i < j → (gt L i).id ≠ t) 0 ⟨Nat.zero_le _, (by simp only [FB, Nat.reduceEqDiff]), (by simp only [FB, Nat.reduceEqDiff]), (by simp only [FB, Nat.reduceEqDiff]), by rfl, Ext.refl.app, fun i hi => by omega⟩ ?_
  intro j fr G ⟨hj, f0, f1, f7, f8, hE, hno⟩ hN
  rw [Ret_code l68_1.eq_1]
  refine Ret_pad ?_
  by_cases hlt : j < L.length
  case neg =>
    obtain rfl : j = L.length := by omega
    simp only [n68, r68, f0, f1, f7, f8, hlt, SB, Nat.reduceLT, callee, aOp, ne_eq, Nat.reduceEqDiff, aBin, aUn, if_true, if_false, reduceCtorEq, frame0, place, notTuple, Nat.reduceAdd, Nat.reduceLeDiff, resVal, dite_true, dite_false, Int.reduceEq, Int.reduceLT, Int.reduceLE]
    rw [legAt, if_neg]
    rintro ⟨l, hl, he⟩
    obtain ⟨i, hi, rfl⟩ := List.mem_iff_getElem.1 hl
    exact hno i hi (by rw [gt_lt hi]; exact he)
  have hld := fun X => ((hE.sl hs).app X).loadCells encL_len hlt
  have hidx := fun c (kk : IntKind) (H1 : Heap) => (hE.sl hs).idx (c := c) (k := kk) (H1 := H1) hlt
  have hw1 : IntKind.i64.wrap ((j : Int) + 1) = ((j + 1 : Nat) : Int) := wrap_nat (by omega)
  have hat := fun X (mp : Bool) (lim : Nat) (Q : Value → Heap → Prop) => isleg_ok (mp := mp) (lim := lim) (Q := Q) (H := G ++ X) (l := gt L j) ((hE.app).cells hA)
  by_cases he : (gt L j).id = t
  · rw [decide_eq_true he] at hat
    simp only [n68, r68, f0, f1, f7, f8, hlt, hld, hidx, hw1, hat, SB, Nat.reduceLT, callee, aOp, ne_eq, Nat.reduceEqDiff, aBin, aUn, if_true, if_false, reduceCtorEq, frame0, place, notTuple, Nat.reduceAdd, Nat.reduceLeDiff, resVal, dite_true, dite_false, Int.reduceEq, Int.reduceLT, Int.reduceLE]
    rw [legAt, if_pos ⟨_, gt_mem hlt, he⟩, findIdx_at hlt he hno]
  · rw [decide_eq_false he] at hat
    simp only [n68, r68, f0, f1, f7, f8, hlt, hld, hidx, hw1, hat, SB, Nat.reduceLT, callee, aOp, ne_eq, Nat.reduceEqDiff, aBin, aUn, if_true, if_false, reduceCtorEq, frame0, place, notTuple, Nat.reduceAdd, Nat.reduceLeDiff, resVal, dite_true, dite_false, Int.reduceEq, Int.reduceLT, Int.reduceLE]
    exact hN (j + 1) _ _ ⟨by omega, (by simp only [f0, FB, Nat.reduceEqDiff]), (by simp only [f1, FB, Nat.reduceEqDiff]), (by simp only [f7, FB, Nat.reduceEqDiff]), (by simp only [FB, Nat.reduceEqDiff]), hE.app, fun i hi => by
      rcases Nat.lt_or_ge i j with h | h
      · exact hno i h
      · obtain rfl : i = j := by omega
        exact he⟩ (by omega)

/-! ### The same lists -/
def Sames {α : Type} [DecidableEq α] (a b : List α) : Bool := decide (a = b)
theorem same_step {α : Type} [Inhabited α] {a b : List α} {i : Nat} (hl : a.length = b.length) (hi : i < a.length) (hall : ∀ j, j < i → gt a j = gt b j) (he : gt a i = gt b i) : ∀ j, j < i + 1 → gt a j = gt b j := fun j hj => by
  rcases Nat.lt_or_ge j i with h | h
  · exact hall j h
  · obtain rfl : j = i := by omega
    exact he
theorem same_all {α : Type} [Inhabited α] {a b : List α} (hl : a.length = b.length) (hall : ∀ j, j < a.length → gt a j = gt b j) : a = b := by
  apply List.ext_getElem hl
  intro i h1 h2
  have := hall i h1
  rwa [gt_lt h1, gt_lt h2] at this
theorem sameints_ok [OB] {mp : Bool} {lim ca cb : Nat} {p q : Option Addr} {a b : List Int} {H : Heap} {Q : Value → Heap → Prop} (ha : Sl H encI 1 p a) (hb : Sl H encI 1 q b) (hn : a.length < 2 ^ 62) :
    CallR E mp lim 28 [.slice p a.length ca, .slice q b.length cb] H Q = Q (.bool (decide (a = b))) H := by
  refine pc (by decide) e28 rfl rfl ?_
  rw [b28, c28]
  by_cases hl : a.length = b.length
  case neg =>
    have h1 : ¬ (a.length : Int) = (b.length : Int) := by omega
    simp only [n28, r28, eq_false h1, SB, Nat.reduceLT, callee, aOp, ne_eq, Nat.reduceEqDiff, aBin, aUn, if_true, if_false, reduceCtorEq, frame0, place, notTuple, Nat.reduceAdd, Nat.reduceLeDiff, resVal, dite_true, dite_false, Int.reduceEq, Int.reduceLT, Int.reduceLE]
    congr 1
    rw [eq_comm, decide_eq_false_iff_not]
    rintro rfl
    exact hl rfl
  have h1 : (a.length : Int) = (b.length : Int) := by omega
  simp only [n28, r28, eq_true h1, SB, Nat.reduceLT, callee, aOp, ne_eq, Nat.reduceEqDiff, aBin, aUn, if_true, if_false, reduceCtorEq, frame0, place, notTuple, Nat.reduceAdd, Nat.reduceLeDiff, resVal, dite_true, dite_false, Int.reduceEq, Int.reduceLT, Int.reduceLE]
  refine Ret_rounds (fun j => a.length - j) (fun j fr G => j ≤ a.length ∧ fr 0 = .slice p a.length ca ∧ fr 1 = .slice q b.length cb ∧ fr 5 = .int .i64 (j : Int) ∧ Ext H G ∧ ∀ i, i < j → gt a i = gt b i) 0 ⟨Nat.zero_le _, (by simp only [FB, Nat.reduceEqDiff]), (by simp only [FB, Nat.reduceEqDiff]), by rfl, Ext.refl.app, fun i hi => by omega⟩ ?_
  intro j fr G ⟨hj, f0, f1, f5, hE, hall⟩ hN
  rw [Ret_code l28_1.eq_1]
  refine Ret_pad ?_
  by_cases hlt : j < a.length
  case neg =>
    obtain rfl : j = a.length := by omega
    simp only [n28, r28, f0, f1, f5, hlt, SB, Nat.reduceLT, callee, aOp, ne_eq, Nat.reduceEqDiff, aBin, aUn, if_true, if_false, reduceCtorEq, frame0, place, notTuple, Nat.reduceAdd, Nat.reduceLeDiff, resVal, dite_true, dite_false, Int.reduceEq, Int.reduceLT, Int.reduceLE]
    rw [decide_eq_true (same_all hl hall)]
  have l1 := fun X => ((hE.sl ha).app X).loadCell0 encI_len hlt (by decide)
  have l2 := fun X => ((hE.sl hb).app X).loadCell0 encI_len (by omega : j < b.length) (by decide)
  simp only [encI, List.getElem?_cons_zero] at l1 l2
  have x1 := fun c (kk : IntKind) (H1 : Heap) => (hE.sl ha).idx (c := c) (k := kk) (H1 := H1) hlt
  have x2 := fun c (kk : IntKind) (H1 : Heap) => (hE.sl hb).idx (c := c) (k := kk) (H1 := H1) (by omega : j < b.length)
  have hw1 : IntKind.i64.wrap ((j : Int) + 1) = ((j + 1 : Nat) : Int) := wrap_nat (by omega)
  by_cases he : gt a j = gt b j
  · simp only [n28, r28, f0, f1, f5, hlt, l1, l2, x1, x2, hw1, eq_true he, SB, Nat.reduceLT, callee, aOp, ne_eq, Nat.reduceEqDiff, aBin, aUn, if_true, if_false, reduceCtorEq, frame0, place, notTuple, Nat.reduceAdd, Nat.reduceLeDiff, resVal, dite_true, dite_false, Int.reduceEq, Int.reduceLT, Int.reduceLE]
    exact hN (j + 1) _ _ ⟨by omega, (by simp only [f0, FB, Nat.reduceEqDiff]), (by simp only [f1, FB, Nat.reduceEqDiff]), (by simp only [FB, Nat.reduceEqDiff]), hE.app, same_step hl hlt hall he⟩ (by omega)
  · simp only [n28, r28, f0, f1, f5, hlt, l1, l2, x1, x2, hw1, eq_false he, SB, Nat.reduceLT, callee, aOp, ne_eq, Nat.reduceEqDiff, aBin, aUn, if_true, if_false, reduceCtorEq, frame0, place, notTuple, Nat.reduceAdd, Nat.reduceLeDiff, resVal, dite_true, dite_false, Int.reduceEq, Int.reduceLT, Int.reduceLE]
    rw [decide_eq_false]
    rintro rfl
    exact he rfl
end Go.Proofs.Ytcmhnincbkbncaa.Fn
namespace Go.Proofs.Ytcmhnincbkbncaa.Fn
open Go.AM Go.AM.Sym Go.Net
set_option maxRecDepth 100000
set_option linter.unusedVariables false
set_option linter.unusedSimpArgs false
set_option maxHeartbeats 4000000

theorem seen_ok [OB] {mp : Bool} {lim : Nat} {p t : Int} {H : Heap} {Q : Value → Heap → Prop} : CallR E mp lim 56 [.int .i64 p, .int .i64 t] H Q = Q (.agg #[.int .i64 7, .int .i64 p, .int .i64 1, .int .u8 2, .int .i64 t, .int .i64 t, .int .i64 t]) H := by
  refine pc (by decide) e56 rfl rfl ?_
  rw [b56, c56]
  simp only [n56, r56, setAll, fillV, SB, Nat.reduceLT, callee, aOp, ne_eq, Nat.reduceEqDiff, aBin, aUn, if_true, if_false, reduceCtorEq, frame0, place, notTuple, Nat.reduceAdd, Nat.reduceLeDiff, resVal, dite_true, dite_false, Int.reduceEq, Int.reduceLT, Int.reduceLE]
theorem two_ok [OB] {lim : Nat} {H : Heap} {Q : Value → Heap → Prop} (hlim : lim ≤ H.length) (hQ : ∀ H' a b, Ext H H' → NetIn H' a b P2 L2 → Q (.agg (netV a 2 2 b 1 1).toArray) H') : CallR E false lim 83 [] H Q := by
  refine runs' (by decide) e83 rfl ?_
  rw [b83, c83]
  simp only [n83, r83, setAll_full, hlim, SB, Nat.reduceLT, callee, aOp, ne_eq, Nat.reduceEqDiff, aBin, aUn, if_true, if_false, reduceCtorEq, frame0, place, notTuple, Nat.reduceAdd, Nat.reduceLeDiff, resVal, dite_true, dite_false, Int.reduceEq, Int.reduceLT, Int.reduceLE]
  refine hQ _ (some ⟨H.length + 1, 0, none⟩) (some ⟨H.length + 2, 0, none⟩) Ext.refl.app ⟨Sl.row (ro := false) encI_len (by rw [hget_new]; rfl), Sl.row (ro := false) encL_len (by rw [hget_new]; rfl), by decide, by decide, ?_⟩
  intro l hl
  simp only [L2, List.mem_cons, List.not_mem_nil, or_false] at hl
  rcases hl with rfl <;> (unfold By; decide)
theorem awake38_go [OB] {mp : Bool} {lim : Nat} {H : Heap} {Q : Value → Heap → Prop} (hoff : OB.on 38 = false) : CallR E mp lim 38 [] H Q = Q (.bool true) H := by
  refine CallR_pure (E := E) (by simp [E, orc, hoff]) (show E.tr 38 = some a38 from e38) rfl rfl (Ret_pad ?_)
  rw [b38, c38]
  simp only [n38, r38, SB, Nat.reduceLT, callee, aOp, ne_eq, Nat.reduceEqDiff, aBin, aUn, if_true, if_false, reduceCtorEq, frame0, place, notTuple, Nat.reduceAdd, Nat.reduceLeDiff, resVal, dite_true, dite_false, Int.reduceEq, Int.reduceLT, Int.reduceLE]
  rw [List.append_nil]
  refine two_ok (Nat.le_refl _) fun H0 pa pb hE0 hn0 => ?_
  refine Ret_pad ?_
  have hl0 := hE0.len
  have pr : ∀ (p t q s v : Int), errI P2 L2 [seenE p t, seenE q s] = 0 → priceN P2 L2 (seenE p t) (seenE q s) = v → ∀ (X : Heap) (mp : Bool) (lim : Nat) (Q : Value → Heap → Prop), CallR E mp lim 45 [.agg (netV pa 2 2 pb 1 1).toArray, .agg #[.int .i64 7, .int .i64 p, .int .i64 1, .int .u8 2, .int .i64 t, .int .i64 t, .int .i64 t], .agg #[.int .i64 7, .int .i64 q, .int .i64 1, .int .u8 2, .int .i64 s, .int .i64 s, .int .i64 s]] (H0 ++ X) Q = Q (.tuple #[.int .i64 v, .int .i64 0]) (H0 ++ X) := fun p t q s v h1 h2 X mp lim Q => by
    have := Price_ok (mp := mp) (lim := lim) (cp := 2) (cl := 1) (a := seenE p t) (b := seenE q s) (Q := Q) (hn0.app X)
    rw [h1, if_pos rfl, h2] at this
    exact this
  have pr1 := pr _ _ _ _ _ i_a x_a
  have pr2 := pr _ _ _ _ _ i_b x_b
  have pr3 := pr _ _ _ _ _ i_c x_c
  have pr4 := pr _ _ _ _ _ i_d x_d
  simp only [n38, r38, netV_len, netV_0, netV_1, take_all, setAll_full, hl0, seen_ok, pr1, pr2, pr3, pr4, setAll, fillV, SB, Nat.reduceLT, callee, aOp, ne_eq, Nat.reduceEqDiff, aBin, aUn, if_true, if_false, reduceCtorEq, frame0, place, notTuple, Nat.reduceAdd, Nat.reduceLeDiff, resVal, dite_true, dite_false, Int.reduceEq, Int.reduceLT, Int.reduceLE]
  generalize hG : H0 ++ [Blk.cells false (netV pa 2 2 pb 1 1), _] = G
  have hEG : Ext H0 G := ⟨_, hG.symm⟩
  have n0 : hget G H0.length = .cells false (netV pa 2 2 pb 1 1) := by rw [← hG, hget_new0]; rfl
  have s0 : Sl G encE 7 (some ⟨H0.length + 1, 0, none⟩) E3 := Sl.row (ro := false) encE_len (by rw [← hG, hget_new]; rfl)
  have hlG := hEG.len
  clear hG
  refine Best_ok (P := P2) (L := L2) (cp := 2) (cl := 1) (es := E3) (ce := 3) (hn0.ext hEG) (by omega) s0 (by decide) (fun _ h => absurd i_e h) fun G1 q cq r cr _ hC1 hq hr => ?_
  rw [best3] at hq hr ⊢
  rw [steps3] at hr ⊢
  rw [cost3]
  have n1 := hC1.cells n0 (by simp)
  have s1 := hC1.ext.sl s0
  have hE1 : Ext H0 G1 := hEG.trans hC1.ext
  have hlG1 := hC1.len
  have n1X := fun X => (Ext.refl.app (X := X)).cells n1
  refine Ret_pad ?_
  simp only [n38, r38, n1X, netV_len, netV_0, netV_1, take_all, setAll_full, setAll, fillV, show H.length ≤ G1.length by omega, SB, Nat.reduceLT, callee, aOp, ne_eq, Nat.reduceEqDiff, aBin, aUn, if_true, if_false, reduceCtorEq, frame0, place, notTuple, Nat.reduceAdd, Nat.reduceLeDiff, resVal, dite_true, dite_false, Int.reduceEq, Int.reduceLT, Int.reduceLE]
  refine Cost_ok (P := P2) (L := L2) (cp := 2) (cl := 1) (es := E3) (ce := 3) (ks := [0, 1, 2]) (ck := 3) ((hn0.ext hE1).app _) (by simp; omega) (s1.app _) (by decide) (Sl.row (ro := false) encI_len (by rw [hget_new]; rfl)) (by decide) (fun h => by cases h) (fun _ h => absurd i_f h) fun G2 q' cq' r' cr' _ hC2 hq' hr' => ?_
  rw [steps4, cost4]
  have hC2' := hC2.pre
  have o1 := hC2.cells hget_new0 (by simp)
  have q2 := hC2'.ext.sl hq.1
  have r2 := hC2'.ext.sl hr.1
  have hlG2 := hC2'.len
  have o1X := fun X => (Ext.refl.app (X := X)).cells o1
  have ld : ∀ X, AM.loadCells (G2 ++ X) (elt r 3 0) 3 = some [.int .i64 0, .int .i64 2, .int .i64 0] := fun X => (r2.app X).loadCells enc3_len (i := 0) (by decide)
  have ix : ∀ c (kk : IntKind) (H1 : Heap), idxK 3 (.slice r 1 c) (.int kk 0) H1 = some (.pointer (some (elt r 3 0)), H1) := fun c kk H1 => r2.idx (c := c) (k := kk) (H1 := H1) (i := 0) (by decide)
  have eq3 : aEq (.agg [.int .i64, .int .i64, .int .i64]) (.agg #[.int .i64 0, .int .i64 2, .int .i64 0]) (.agg #[.int .i64 0, .int .i64 2, .int .i64 0]) = some true := rfl
  have f1 : ∀ (a : Blk) (X : Heap) (mp : Bool) (lim : Nat) (Q : Value → Heap → Prop), CallR E mp lim 28 [.slice q 2 cq, .slice (some ⟨G2.length + 1, 0, none⟩) 2 2] (G2 ++ a :: .cells false [.int .i64 0, .int .i64 2] :: X) Q = Q (.bool true) (G2 ++ a :: .cells false [.int .i64 0, .int .i64 2] :: X) := fun a X mp lim Q =>
    sameints_ok (a := [0, 2]) (b := [0, 2]) (q2.app _) (Sl.row (ro := false) encI_len (by rw [hget_new]; rfl)) (by decide)
  refine Ret_pad ?_
  have w0 : IntKind.i64.wrap (0 + 0) = 0 := by decide
  simp only [n38, r38, o1X, ld, ix, f1, take_all, setAll_full, setAll, fillV, show H.length ≤ G2.length by omega, w0, eq_self, decide_true, eq3, SB, Nat.reduceLT, callee, aOp, ne_eq, Nat.reduceEqDiff, aBin, aUn, if_true, if_false, reduceCtorEq, frame0, place, notTuple, Nat.reduceAdd, Nat.reduceLeDiff, resVal, dite_true, dite_false, Int.reduceEq, Int.reduceLT, Int.reduceLE]
end Go.Proofs.Ytcmhnincbkbncaa.Fn
namespace Go.Proofs.Ytcmhnincbkbncaa.Fn
open Go.AM Go.AM.Sym Go.Net
set_option maxRecDepth 100000
set_option linter.unusedVariables false
set_option linter.unusedSimpArgs false
set_option maxHeartbeats 4000000

/-- A leg in six bytes. -/
structure RL where
  (a b c d e f : Int)
  deriving DecidableEq, Inhabited
def encR (x : RL) : List Value := [.int .u8 x.a, .int .u8 x.b, .int .u8 x.c, .int .u8 x.d, .int .u8 x.e, .int .u8 x.f]
theorem encR_len (x : RL) : (encR x).length = 6 := id rfl
def ByR (x : RL) : Prop := (0 ≤ x.a ∧ x.a ≤ 255) ∧ (0 ≤ x.b ∧ x.b ≤ 255) ∧ (0 ≤ x.c ∧ x.c ≤ 255) ∧ (0 ≤ x.d ∧ x.d ≤ 255) ∧ (0 ≤ x.e ∧ x.e ≤ 255) ∧ (0 ≤ x.f ∧ x.f ≤ 255)
def P5 : List Int := [3, 1, 5, 2, 4]
def legR (i : Nat) (x : RL) : Leg := ⟨(i : Int) + 1, 1 + x.a.tmod 5, 1 + x.b.tmod 5, x.c * 5, 1 + x.d, x.e.tmod 60, 1000, x.f.tmod 127 + 1⟩
/-- The legs of the first n. -/
def netL (rs : List RL) : Nat → List Leg
  | 0 => []
  | n + 1 => if (legR n (gt rs n)).frm ≠ (legR n (gt rs n)).dst then netL rs n ++ [legR n (gt rs n)] else netL rs n

theorem netL_len (rs : List RL) : ∀ n, (netL rs n).length ≤ n
  | 0 => Nat.le_refl _
  | n + 1 => by
    have := netL_len rs n
    rw [netL]
    split
    · simp; omega
    · omega
theorem netL_mem {rs : List RL} {l : Leg} : ∀ {n}, l ∈ netL rs n → ∃ i, i < n ∧ l = legR i (gt rs i) ∧ l.frm ≠ l.dst
  | 0, h => by cases h
  | n + 1, h => by
    rw [netL] at h
    split at h
    · rename_i hne
      rcases List.mem_append.1 h with h | h
      · obtain ⟨i, h1, h2⟩ := netL_mem h; exact ⟨i, by omega, h2⟩
      · rw [List.mem_singleton] at h; subst h; exact ⟨n, by omega, rfl, hne⟩
    · obtain ⟨i, h1, h2⟩ := netL_mem h; exact ⟨i, by omega, h2⟩
theorem netL_by {rs : List RL} {n : Nat} (hb : ∀ x ∈ rs, ByR x) (hn : min rs.length 10 = n) : ∀ l ∈ netL rs n, By l := fun l hl => by
  obtain ⟨i, hi, rfl, _⟩ := netL_mem hl
  have h1 := hb _ (gt_mem (l := rs) (i := i) (by omega))
  have h2 := h1.2.2.2.2.2
  unfold By legR
  simp only
  have h3 := Int.tmod_lt_of_pos (gt rs i).f (show (0 : Int) < 127 by decide)
  have h4 := Int.tmod_nonneg (127 : Int) h2.1
  omega
theorem gt_take {α : Type} [Inhabited α] {l : List α} {n i : Nat} (h : i < n) : gt (l.take n) i = gt l i := by
  unfold gt
  rw [List.getD_eq_getElem?_getD, List.getD_eq_getElem?_getD, List.getElem?_take, if_pos h]

theorem Net_ok [OB] {lim c : Nat} {p : Option Addr} {rs : List RL} {H : Heap} {Q : Value → Heap → Prop} (hs : Sl H encR 6 p rs) (hb : ∀ x ∈ rs, ByR x) (hl : rs.length < 2 ^ 63) (hc : CapOk 6 c rs.length) (hlim : lim ≤ H.length)
    (hQ : ∀ G pp pl cl, Chg [] H G → NetIn G pp pl P5 (netL rs (min rs.length 10)) → Q (.agg (netV pp 5 5 pl (netL rs (min rs.length 10)).length cl).toArray) G) :
    CallR E false lim 53 [.slice p rs.length c] H Q := by
  refine runs' (by decide) e53 rfl ?_
  rw [b53, c53]
  obtain ⟨n, hn⟩ : ∃ n, min rs.length 10 = n := ⟨_, rfl⟩
  rw [hn] at hQ
  have emin : min (rs.length : Int) 10 = (n : Int) := by omega
  obtain ⟨q1, k1, x1, s1, _, _, _⟩ := slice_cut (vlo := none) (vhi := some (.int .i64 (n : Int))) (lo := 0) (hi := n) hs hc encR_len (fun cap hcap => by rw [bv_010 (by omega) (by omega), Int.toNat_natCast]) (Nat.zero_le _) (by omega) (by omega)
  rw [List.drop_zero] at s1
  simp only [Nat.sub_zero] at x1
  have hsl : (rs.take n).length = n := by rw [List.length_take]; omega
  simp only [n53, r53, setAll_full, hlim, min_v, emin, x1, SB, Nat.reduceLT, callee, aOp, ne_eq, Nat.reduceEqDiff, aBin, aUn, if_true, if_false, reduceCtorEq, frame0, place, notTuple, Nat.reduceAdd, Nat.reduceLeDiff, resVal, dite_true, dite_false, Int.reduceEq, Int.reduceLT, Int.reduceLE]
  refine Ret_rounds (fun s : Nat × Option Addr × Nat => n - s.1) (fun s fr G => s.1 ≤ n ∧ fr 2 = .pointer (some ⟨H.length, 0, none⟩) ∧ fr 3 = .pointer (some ⟨H.length + 2, 0, none⟩) ∧ fr 13 = .slice q1 n k1 ∧ fr 14 = .int .i64 (n : Int) ∧ fr 15 = .int .i64 (s.1 : Int) ∧ Chg [] H G ∧ hget G H.length = .cells false [.slice none 0 0, .slice none 0 0] ∧ hget G (H.length + 1) = .cells false (P5.flatMap encI) ∧ hget G (H.length + 2) = .cells false [.slice (some ⟨H.length + 1, 0, none⟩) 5 5, .slice s.2.1 (netL rs s.1).length s.2.2] ∧ Own (H.length + 3) G encL 8 s.2.1 s.2.2 (netL rs s.1)) (0, none, 0)
    ⟨Nat.zero_le _, (by simp only [FB, Nat.reduceEqDiff]), (by simp only [FB, Nat.reduceEqDiff]), (by simp only [FB, Nat.reduceEqDiff]), (by simp only [FB, Nat.reduceEqDiff]), by rfl, Chg.refl.app, by rw [hget_new0]; rfl, by rw [hget_new]; rfl, by rw [hget_new]; rfl, .nil⟩ ?_
  rintro ⟨i, pw, cw⟩ fr G ⟨hi, g2, g3, g13, g14, g15, hC, hA, hP, hB, hO⟩ hN
  simp only at hi g15 hB hO
  rw [Ret_code l53_1.eq_1]
  refine Ret_pad ?_
  have hl := hC.len
  have hBl := hget_alive hB
  have hXB := fun X => (Ext.refl.app (X := X)).cells hB
  by_cases hlt : i < n
  case neg =>
    obtain rfl : i = n := by omega
    obtain ⟨G2, e2, h2, m2⟩ := mut_set (hget_alive hA) (.cells false [.slice (some ⟨H.length + 1, 0, none⟩) 5 5, .slice pw (netL rs i).length cw])
    have XA := fun X => (Ext.refl.app (X := X)).cells hA
    have X2 := fun X => (Ext.refl.app (X := X)).cells h2
    simp only [n53, r53, g2, g3, g13, g14, g15, hlt, hXB, XA, e2, X2, hlim, SB, Nat.reduceLT, callee, aOp, ne_eq, Nat.reduceEqDiff, aBin, aUn, if_true, if_false, reduceCtorEq, frame0, place, notTuple, Nat.reduceAdd, Nat.reduceLeDiff, resVal, dite_true, dite_false, Int.reduceEq, Int.reduceLT, Int.reduceLE]
    have S1 : Sl G2 encI 1 (some ⟨H.length + 1, 0, none⟩) P5 := Sl.row (ro := false) encI_len (m2.cells hP (by omega))
    have S2 := (hO.mut m2 fun a ha e => by have := (hO.block ha).1; omega).sl encL_len
    exact hQ _ (some ⟨H.length + 1, 0, none⟩) pw cw (hC.mut m2 (.inr (Nat.le_refl _))).app ⟨S1.app _, S2.app _, by decide, by have := netL_len rs i; omega, netL_by hb hn⟩
  have hss := (hC.sl s1 (by simp))
  have ld := fun X => (hss.app X).loadCells encR_len (i := i) (by omega)
  have ix := fun c (k : IntKind) (H1 : Heap) => hss.idx (c := c) (k := k) (H1 := H1) (i := i) (by omega)
  have eg : gt (rs.take n) i = gt rs i := gt_take hlt
  rw [eg] at ld
  rw [hsl] at ix
  simp only [encR] at ld
  have hlimG : lim ≤ G.length := by omega
  have hby := hb _ (gt_mem (l := rs) (i := i) (by omega))
  generalize hx : gt rs i = x at ld hby
  obtain ⟨ha, hb', hc', hd, he, hf⟩ := hby
  have ta1 := Int.tmod_lt_of_pos x.a (show (0 : Int) < 5 by decide)
  have ta2 := Int.tmod_nonneg (5 : Int) ha.1
  have tb1 := Int.tmod_lt_of_pos x.b (show (0 : Int) < 5 by decide)
  have tb2 := Int.tmod_nonneg (5 : Int) hb'.1
  have tf1 := Int.tmod_lt_of_pos x.f (show (0 : Int) < 127 by decide)
  have tf2 := Int.tmod_nonneg (127 : Int) hf.1
  have wa : IntKind.i64.wrap x.a = x.a := wrap_id (by omega) (by omega)
  have wb : IntKind.i64.wrap x.b = x.b := wrap_id (by omega) (by omega)
  have wc : IntKind.i64.wrap x.c = x.c := wrap_id (by omega) (by omega)
  have wd : IntKind.i64.wrap x.d = x.d := wrap_id (by omega) (by omega)
  have we : IntKind.i64.wrap x.e = x.e := wrap_id (by omega) (by omega)
  have wa5 : IntKind.i64.wrap (1 + x.a.tmod 5) = 1 + x.a.tmod 5 := wrap_id (by omega) (by omega)
  have wb5 : IntKind.i64.wrap (1 + x.b.tmod 5) = 1 + x.b.tmod 5 := wrap_id (by omega) (by omega)
  have wc5 : IntKind.i64.wrap (x.c * 5) = x.c * 5 := wrap_id (by omega) (by omega)
  have wd5 : IntKind.i64.wrap (1 + x.d) = 1 + x.d := wrap_id (by omega) (by omega)
  have wf : IntKind.u8.wrap (x.f.tmod 127 + 1) = x.f.tmod 127 + 1 := by
    simp only [IntKind.wrap, IntKind.bits, IntKind.signed, Bool.false_and, Bool.false_eq_true, if_false]
    omega
  have wi : IntKind.i64.wrap ((i : Int) + 1) = (i : Int) + 1 := wrap_id (by omega) (by omega)
  have en : netL rs (i + 1) = if 1 + x.a.tmod 5 = 1 + x.b.tmod 5 then netL rs i else netL rs i ++ [legR i x] := by
    rw [netL, hx, ite_not]; rfl
  by_cases hne : 1 + x.a.tmod 5 = 1 + x.b.tmod 5
  · rw [if_pos hne] at en
    simp only [n53, r53, g2, g3, g13, g14, g15, hlt, ld, ix, hlimG, wa, wb, wc, wd, we, wa5, wb5, wc5, wd5, wf, wi, eq_true hne, SB, Nat.reduceLT, callee, aOp, ne_eq, Nat.reduceEqDiff, aBin, aUn, if_true, if_false, reduceCtorEq, frame0, place, notTuple, Nat.reduceAdd, Nat.reduceLeDiff, resVal, dite_true, dite_false, Int.reduceEq, Int.reduceLT, Int.reduceLE]
    exact hN (i + 1, pw, cw) _ _ ⟨by show i + 1 ≤ n; omega, (by simp only [g2, FB, Nat.reduceEqDiff]), (by simp only [g3, FB, Nat.reduceEqDiff]), (by simp only [g13, FB, Nat.reduceEqDiff]), (by simp only [g14, FB, Nat.reduceEqDiff]), by rfl, hC.app, (Ext.refl.app).cells hA, (Ext.refl.app).cells hP, by simp only [en]; exact (Ext.refl.app).cells hB, by simp only [en]; exact hO.app _⟩ (by show n - (i + 1) < n - i; omega)
  rw [if_neg hne] at en
  obtain ⟨G4, e4, O4, C4, hl4⟩ := Own.moreF hO (lim' := lim) (bytes := 64) (by omega) encL_len (by decide) [legR i x] (by simp) (by have := netL_len rs i; unfold maxBytes; simp; omega) (by have := netL_len rs i; simp; omega) [.cells false [.int .u8 x.a, .int .u8 x.b, .int .u8 x.c, .int .u8 x.d, .int .u8 x.e, .int .u8 x.f], .cells false (encL (legR i x)), .cells false (encL (legR i x))] (x := .slice (some ⟨G.length + 2, 0, none⟩) 1 1) (str := false)
    (first_slice (m := [legR i x]) (Sl.row (ro := false) encL_len (by rw [hget_new]; rfl))) rfl
  have hpw : ∀ j, j ∈ opB pw → H.length + 3 ≤ j := fun j hj => by
    cases hpe : pw with
    | none => rw [hpe] at hj; cases hj
    | some a => rw [hpe] at hj; have := hO.block hpe; simp [opB] at hj; omega
  generalize hp' : (G ++ [Blk.cells false [.int .u8 x.a, .int .u8 x.b, .int .u8 x.c, .int .u8 x.d, .int .u8 x.e, .int .u8 x.f], .cells false (encL (legR i x)), .cells false (encL (legR i x))]).length = r at e4 O4 hl4
  have hr' : G.length ≤ r := by rw [← hp']; simp
  generalize loose 8 = c' at e4 O4
  simp only [List.length_cons, List.length_nil, Nat.zero_add, encL, legR] at e4
  have hB4 := C4.cells hB fun hm => by have := hpw _ hm; omega
  have hA4 := C4.cells hA fun hm => by have := hpw _ hm; omega
  have hP4 := C4.cells hP fun hm => by have := hpw _ hm; omega
  obtain ⟨G5, e5, h5, m5⟩ := mut_set (hget_alive hB4) (.cells false [.slice (some ⟨H.length + 1, 0, none⟩) 5 5, .slice (some ⟨r, 0, none⟩) ((netL rs i).length + 1) c'])
  have X4 := fun X => (Ext.refl.app (X := X)).cells hB4
  have hlim2 : lim ≤ H.length + 2 := by omega
  simp only [n53, r53, g2, g3, g13, g14, g15, hlt, ld, ix, hlimG, wa, wb, wc, wd, we, wa5, wb5, wc5, wd5, wf, wi, eq_false hne, hXB, e4, X4, e5, hlim2, SB, Nat.reduceLT, callee, aOp, ne_eq, Nat.reduceEqDiff, aBin, aUn, if_true, if_false, reduceCtorEq, frame0, place, notTuple, Nat.reduceAdd, Nat.reduceLeDiff, resVal, dite_true, dite_false, Int.reduceEq, Int.reduceLT, Int.reduceLE]
  exact hN (i + 1, some ⟨r, 0, none⟩, c') _ _ ⟨by show i + 1 ≤ n; omega, (by simp only [g2, FB, Nat.reduceEqDiff]), (by simp only [g3, FB, Nat.reduceEqDiff]), (by simp only [g13, FB, Nat.reduceEqDiff]), (by simp only [g14, FB, Nat.reduceEqDiff]), by rfl, ((hC.trans' C4 fun j hj hjl => by have := hpw j hj; omega).mut m5 (.inr (by omega))).app, (Ext.refl.app).cells (m5.cells hA4 (by omega)), (Ext.refl.app).cells (m5.cells hP4 (by omega)),
    by simp only [en, List.length_append, List.length_singleton]; exact (Ext.refl.app).cells h5, by simp only [en]; exact ((O4.mut m5 fun a ha e => by cases ha; simp at e; omega).le (by omega)).app _⟩ (by show n - (i + 1) < n - i; omega)
end Go.Proofs.Ytcmhnincbkbncaa.Fn
namespace Go.Proofs.Ytcmhnincbkbncaa.Fn
open Go.AM Go.AM.Sym Go.Net
set_option maxRecDepth 100000
set_option linter.unusedVariables false
set_option linter.unusedSimpArgs false
set_option maxHeartbeats 4000000

structure Lk where
  (a b c : Int)
  deriving DecidableEq, Inhabited
def encK (x : Lk) : List Value := [.int .u8 x.a, .int .u8 x.b, .int .u16 x.c]
theorem encK_len (x : Lk) : (encK x).length = 3 := id rfl
def ByK (x : Lk) : Prop := (0 ≤ x.a ∧ x.a ≤ 255) ∧ (0 ≤ x.b ∧ x.b ≤ 255) ∧ (0 ≤ x.c ∧ x.c ≤ 65535)
def timeN (ls : List Lk) : Nat → Int
  | 0 => 14400
  | n + 1 => timeN ls n + (gt ls n).c.tmod 2000
def kinds : List Int := [1, 2, 3, 2, 4]
def evN (ls : List Lk) (i : Nat) : Ev := ⟨7, 1 + (gt ls i).a.tmod 6, 1, gt kinds ((gt ls i).b.tmod 5).toNat, timeN ls (i + 1), timeN ls (i + 1), timeN ls (i + 1)⟩
def seenN (ls : List Lk) (n : Nat) : List Ev := (List.range n).map (evN ls)
theorem seenN_len {ls : List Lk} {n : Nat} : (seenN ls n).length = n := by simp [seenN]
def encU (x : Int) : List Value := [.int .u8 x]
theorem encU_len (x : Int) : (encU x).length = 1 := id rfl
theorem timeN_bnd {ls : List Lk} (hb : ∀ x ∈ ls, ByK x) : ∀ n, n ≤ ls.length → 14400 ≤ timeN ls n ∧ timeN ls n ≤ 14400 + 2000 * n
  | 0, _ => ⟨Int.le_refl _, by show (14400 : Int) ≤ _; omega⟩
  | n + 1, h => by
    have h1 := timeN_bnd hb n (by omega)
    have h2 := (hb _ (gt_mem (l := ls) (i := n) (by omega))).2.2
    have h3 := Int.tmod_lt_of_pos (gt ls n).c (show (0 : Int) < 2000 by decide)
    have h4 := Int.tmod_nonneg (2000 : Int) h2.1
    rw [timeN]
    omega

theorem Seen_ok [OB] {lim c k : Nat} {p : Option Addr} {ls : List Lk} {H : Heap} {Q : Value → Heap → Prop} (hs : Sl H encK 3 p ls) (hb : ∀ x ∈ ls, ByK x) (hl : ls.length < 2 ^ 63) (hc : CapOk 3 c ls.length) (hk : k ≤ 40) (hlim : lim ≤ H.length)
    (hQ : ∀ G q cq, Chg [] H G → Own H.length G encE 7 q cq (seenN ls (min ls.length k)) → Q (.slice q (min ls.length k) cq) G) :
    CallR E false lim 54 [.slice p ls.length c, .int .i64 (k : Int)] H Q := by
  refine runs' (by decide) e54 rfl ?_
  rw [b54, c54]
  obtain ⟨n, hn⟩ : ∃ n, min ls.length k = n := ⟨_, rfl⟩
  rw [hn] at hQ
  have emin : min (ls.length : Int) (k : Int) = (n : Int) := by omega
  obtain ⟨q1, k1, x1, s1, _, _, _⟩ := slice_cut (vlo := none) (vhi := some (.int .i64 (n : Int))) (lo := 0) (hi := n) hs hc encK_len (fun cap hcap => by rw [bv_010 (by omega) (by omega), Int.toNat_natCast]) (Nat.zero_le _) (by omega) (by omega)
  rw [List.drop_zero] at s1
  simp only [Nat.sub_zero] at x1
  have hsl : (ls.take n).length = n := by rw [List.length_take]; omega
  simp only [n54, r54, setAll_full, hlim, min_v, emin, x1, SB, Nat.reduceLT, callee, aOp, ne_eq, Nat.reduceEqDiff, aBin, aUn, if_true, if_false, reduceCtorEq, frame0, place, notTuple, Nat.reduceAdd, Nat.reduceLeDiff, resVal, dite_true, dite_false, Int.reduceEq, Int.reduceLT, Int.reduceLE]
  refine Ret_rounds (fun s : Nat × Option Addr × Nat => n - s.1) (fun s fr G => s.1 ≤ n ∧ fr 5 = .slice s.2.1 s.1 s.2.2 ∧ fr 6 = .int .i64 (timeN ls s.1) ∧ fr 15 = .slice q1 n k1 ∧ fr 16 = .int .i64 (n : Int) ∧ fr 17 = .int .i64 (s.1 : Int) ∧ Chg [] H G ∧ Own H.length G encE 7 s.2.1 s.2.2 (seenN ls s.1)) (0, none, 0)
    ⟨Nat.zero_le _, by rfl, by rfl, (by simp only [FB, Nat.reduceEqDiff]), (by simp only [FB, Nat.reduceEqDiff]), by rfl, Chg.refl.app, .nil⟩ ?_
  rintro ⟨i, pw, cw⟩ fr G ⟨hi, g5, g6, g15, g16, g17, hC, hO⟩ hN
  simp only at hi g5 g6 g17 hO
  rw [Ret_code l54_1.eq_1]
  refine Ret_pad ?_
  have hlG := hC.len
  by_cases hlt : i < n
  case neg =>
    obtain rfl : i = n := by omega
    simp only [n54, r54, g5, g6, g15, g16, g17, hlt, SB, Nat.reduceLT, callee, aOp, ne_eq, Nat.reduceEqDiff, aBin, aUn, if_true, if_false, reduceCtorEq, frame0, place, notTuple, Nat.reduceAdd, Nat.reduceLeDiff, resVal, dite_true, dite_false, Int.reduceEq, Int.reduceLT, Int.reduceLE]
    exact hQ _ _ _ hC.app (hO.app _)
  have hss := (hC.sl s1 (by simp))
  have ld := fun X => (hss.app X).loadCells encK_len (i := i) (by omega)
  have ix := fun c (k : IntKind) (H1 : Heap) => hss.idx (c := c) (k := k) (H1 := H1) (i := i) (by omega)
  have eg : gt (ls.take n) i = gt ls i := gt_take hlt
  rw [eg] at ld
  rw [hsl] at ix
  simp only [encK] at ld
  have hlimG : lim ≤ G.length := by omega
  have hby := hb _ (gt_mem (l := ls) (i := i) (by omega))
  have htm := timeN_bnd hb i (by omega)
  have ht : timeN ls (i + 1) = timeN ls i + (gt ls i).c.tmod 2000 := rfl
  have hev : evN ls i = ⟨7, 1 + (gt ls i).a.tmod 6, 1, gt kinds ((gt ls i).b.tmod 5).toNat, timeN ls (i + 1), timeN ls (i + 1), timeN ls (i + 1)⟩ := rfl
  have es : seenN ls (i + 1) = seenN ls i ++ [evN ls i] := by unfold seenN; rw [List.range_succ, List.map_append, List.map_singleton]
  generalize hx : gt ls i = x at ld hby ht hev
  obtain ⟨ha, hb', hc'⟩ := hby
  have ta1 := Int.tmod_lt_of_pos x.a (show (0 : Int) < 6 by decide)
  have ta2 := Int.tmod_nonneg (6 : Int) ha.1
  have tb1 := Int.tmod_lt_of_pos x.b (show (0 : Int) < 5 by decide)
  have tb2 := Int.tmod_nonneg (5 : Int) hb'.1
  have tc1 := Int.tmod_lt_of_pos x.c (show (0 : Int) < 2000 by decide)
  have tc2 := Int.tmod_nonneg (2000 : Int) hc'.1
  have wa : IntKind.i64.wrap x.a = x.a := wrap_id (by omega) (by omega)
  have wc : IntKind.i64.wrap x.c = x.c := wrap_id (by omega) (by omega)
  have wa6 : IntKind.i64.wrap (1 + x.a.tmod 6) = 1 + x.a.tmod 6 := wrap_id (by omega) (by omega)
  have wt : IntKind.i64.wrap (timeN ls i + x.c.tmod 2000) = timeN ls (i + 1) := by rw [ht]; exact wrap_id (by omega) (by omega)
  have wi : IntKind.i64.wrap ((i : Int) + 1) = ((i + 1 : Nat) : Int) := wrap_nat (by omega)
  obtain ⟨j, hj⟩ := Int.eq_ofNat_of_zero_le tb2
  rw [hj, Int.toNat_natCast] at hev
  have hj5 : j < kinds.length := by show j < 5; omega
  have kx : ∀ (A : Nat) (kk : IntKind) (H1 : Heap), idxK 1 (.slice (some ⟨A, 0, none⟩) 5 5) (.int kk (j : Int)) H1 = some (.pointer (some ⟨A, j, none⟩), H1) := fun A kk H1 => by
    have := (Sl.row (H := H1 ++ []) (R := A) (l := kinds) (ro := false) (enc := encU) encU_len (e := 1))
    simp [idxK, addr_add]
    omega
  have kj : [Value.int .u8 1, Value.int .u8 2, Value.int .u8 3, Value.int .u8 2, Value.int .u8 4][j]? = some (.int .u8 (gt kinds j)) := by
    have : j = 0 ∨ j = 1 ∨ j = 2 ∨ j = 3 ∨ j = 4 := by omega
    rcases this with rfl | rfl | rfl | rfl | rfl <;> rfl
  have hrl := seenN_len (ls := ls) (n := i)
  obtain ⟨G4, e4, O4, C4, hl4⟩ := Own.moreF hO (lim' := lim) (bytes := 56) (by omega) encE_len (by decide) [evN ls i] (by simp) (by rw [hrl]; unfold maxBytes; simp; omega) (by rw [hrl]; simp; omega) [.cells false [.int .u8 x.a, .int .u8 x.b, .int .u16 x.c], .cells false (encE (evN ls i)), .cells false [.int .u8 1, .int .u8 2, .int .u8 3, .int .u8 2, .int .u8 4], .cells false (encE (evN ls i))] (x := .slice (some ⟨G.length + 3, 0, none⟩) 1 1) (str := false)
    (first_slice (m := [evN ls i]) (Sl.row (ro := false) encE_len (by rw [hget_new]; rfl))) rfl
  rw [hrl] at e4
  generalize hp' : (G ++ [Blk.cells false [.int .u8 x.a, .int .u8 x.b, .int .u16 x.c], .cells false (encE (evN ls i)), .cells false [.int .u8 1, .int .u8 2, .int .u8 3, .int .u8 2, .int .u8 4], .cells false (encE (evN ls i))]).length = r at e4 O4 hl4
  have hr' : G.length ≤ r := by rw [← hp']; simp
  generalize loose 7 = c' at e4 O4
  rw [hev] at e4
  simp only [List.length_cons, List.length_nil, Nat.zero_add, encE] at e4
  have hpw : ∀ j, j ∈ opB pw → H.length ≤ j := fun j hj => by
    cases hpe : pw with
    | none => rw [hpe] at hj; cases hj
    | some a => rw [hpe] at hj; have := hO.block hpe; simp [opB] at hj; omega
  simp only [n54, r54, g5, g6, g15, g16, g17, hlt, ld, ix, hlimG, wa, wc, wa6, wt, wi, seen_ok, setAll_full, hj, kx, kj, e4, SB, Nat.reduceLT, callee, aOp, ne_eq, Nat.reduceEqDiff, aBin, aUn, if_true, if_false, reduceCtorEq, frame0, place, notTuple, Nat.reduceAdd, Nat.reduceLeDiff, resVal, dite_true, dite_false, Int.reduceEq, Int.reduceLT, Int.reduceLE]
  exact hN (i + 1, some ⟨r, 0, none⟩, c') _ _ ⟨by show i + 1 ≤ n; omega, by rfl, by rfl, (by simp only [g15, FB, Nat.reduceEqDiff]), (by simp only [g16, FB, Nat.reduceEqDiff]), by rfl, (hC.trans' C4 fun j hj hjl => by have := hpw j hj; omega).app, by simp only [es]; exact (O4.le (by omega)).app _⟩ (by show n - (i + 1) < n - i; omega)
end Go.Proofs.Ytcmhnincbkbncaa.Fn
namespace Go.Proofs.Ytcmhnincbkbncaa.Fn
open Go.AM Go.AM.Sym Go.Net
set_option maxRecDepth 100000
set_option linter.unusedVariables false
set_option linter.unusedSimpArgs false
set_option maxHeartbeats 4000000

def LexLE : List Int → List Int → Prop
  | [], _ => True
  | _ :: _, [] => False
  | x :: l, y :: m => x < y ∨ (x = y ∧ LexLE l m)
theorem LexLE.refl : ∀ l, LexLE l l
  | [] => trivial
  | x :: l => .inr ⟨rfl, LexLE.refl l⟩
theorem LexLE.trans : ∀ {a b c : List Int}, LexLE a b → LexLE b c → LexLE a c
  | [], _, _, _, _ => trivial
  | x :: a, [], c, h, _ => by cases h
  | x :: a, y :: b, [], _, h => by cases h
  | x :: a, y :: b, z :: c, h1, h2 => by
    rcases h1 with h1 | ⟨rfl, h1⟩
    · rcases h2 with h2 | ⟨rfl, h2⟩
      · exact .inl (by omega)
      · exact .inl h1
    · rcases h2 with h2 | ⟨rfl, h2⟩
      · exact .inl h2
      · exact .inr ⟨rfl, h1.trans h2⟩
/-- Better, or as good: cheaper, then longer, then less. -/
def BE (c k : Int) (l : List Int) (c' k' : Int) (l' : List Int) : Prop := c < c' ∨ (c = c' ∧ (k' < k ∨ (k = k' ∧ LexLE l l')))
theorem BE.refl {c k : Int} {l : List Int} : BE c k l c k l := .inr ⟨rfl, .inr ⟨rfl, LexLE.refl l⟩⟩
theorem BE.trans {a b c x y z : Int} {l m r : List Int} (h1 : BE a x l b y m) (h2 : BE b y m c z r) : BE a x l c z r := by
  rcases h1 with h1 | ⟨rfl, h1⟩
  · rcases h2 with h2 | ⟨rfl, h2⟩
    · exact .inl (by omega)
    · exact .inl h1
  · rcases h2 with h2 | ⟨rfl, h2⟩
    · exact .inl h2
    · refine .inr ⟨rfl, ?_⟩
      rcases h1 with h1 | ⟨rfl, h1⟩
      · rcases h2 with h2 | ⟨rfl, h2⟩
        · exact .inl (by omega)
        · exact .inl h1
      · rcases h2 with h2 | ⟨rfl, h2⟩
        · exact .inl h2
        · exact .inr ⟨rfl, h1.trans h2⟩
theorem BE.lift {c k c' k' d i : Int} {l l' : List Int} (h : BE c k l c' k' l') : BE (d + c) (k + 1) (i :: l) (d + c') (k' + 1) (i :: l') := by
  rcases h with h | ⟨rfl, h | ⟨rfl, h⟩⟩
  · exact .inl (by omega)
  · exact .inr ⟨rfl, .inl (by omega)⟩
  · exact .inr ⟨rfl, .inr ⟨rfl, .inr ⟨rfl, h⟩⟩⟩

section
variable {P : List Int} {L : List Leg} {es : List Ev}
def rcI (P : List Int) (L : List Leg) (es : List Ev) : List Int → Int
  | [] => 0
  | [i] => 30 * ((es.length : Int) - 1 - i)
  | i :: j :: l => priceN P L (gt es i.toNat) (gt es j.toNat) + 30 * (j - i - 1) + rcI P L es (j :: l)
def Asc (n : Nat) : List Int → Prop
  | [] => True
  | [i] => 0 ≤ i ∧ i < n
  | i :: j :: l => 0 ≤ i ∧ i < j ∧ Asc n (j :: l)
theorem Asc.head {n : Nat} : ∀ {i : Int} {l : List Int}, Asc n (i :: l) → 0 ≤ i ∧ i < n
  | i, [], h => h
  | i, j :: l, h => ⟨h.1, by have := h.2.2.head; have := h.2.1; omega⟩
theorem rowUp_congr {T T' : List Tri} {i : Nat} : ∀ m, m ≤ es.length → (∀ j, es.length - m ≤ j → j < es.length → gt T j = gt T' j) → rowUp P L es T i m = rowUp P L es T' i m
  | 0, _, _ => rfl
  | m + 1, hm, h => by
    rw [rowUp, rowUp, rowUp_congr m (by omega) fun j h1 h2 => h j (by omega) h2]
    unfold candN
    rw [h _ (by omega) (by omega)]
theorem tableN_keep : ∀ d k, k + d ≤ es.length → ∀ j, es.length - k ≤ j → j < es.length → gt (tableN P L es (k + d)) j = gt (tableN P L es k) j
  | 0, k, _, j, _, _ => rfl
  | d + 1, k, h, j, h1, h2 => by
    rw [← Nat.add_assoc, tableN, gt_set (by rw [tableN_len]; omega), if_neg (by omega)]
    exact tableN_keep d k (by omega) j h1 h2
theorem table_row {i : Nat} (hi : i < es.length) : gt (tableN P L es es.length) i = rowUp P L es (tableN P L es es.length) i (es.length - 1 - i) := by
  obtain ⟨k, hk⟩ : ∃ k, es.length - 1 - i = k := ⟨_, rfl⟩
  have h1 := tableN_keep (P := P) (L := L) (es := es) (es.length - (k + 1)) (k + 1) (by omega) i (by omega) hi
  rw [show k + 1 + (es.length - (k + 1)) = es.length by omega] at h1
  rw [h1, tableN, gt_set (by rw [tableN_len]; omega), if_pos (by omega), hk, show es.length - 1 - k = i by omega]
  refine rowUp_congr k (by omega) fun j h2 h3 => ?_
  have h4 := tableN_keep (P := P) (L := L) (es := es) (es.length - k) k (by omega) j h2 h3
  rw [show k + (es.length - k) = es.length by omega] at h4
  exact h4.symm
variable {F : List Tri} {n : Nat}
theorem chain_fuel (hF : ∀ j, j < n → NextOk n j (gt F j)) : ∀ (f : Nat) (x : Int), (x < 0 ∨ (x < n ∧ (n : Int) - x ≤ f)) → chainN F (f + 1) x = chainN F f x
  | 0, x, h => by
    have e : chainN F (0 + 1) x = if x < 0 then [] else x :: chainN F 0 (gt F x.toNat).2.2 := rfl
    rw [e, if_pos (by omega)]
    rfl
  | f + 1, x, h => by
    have e : chainN F (f + 1 + 1) x = if x < 0 then [] else x :: chainN F (f + 1) (gt F x.toNat).2.2 := rfl
    have e' : chainN F (f + 1) x = if x < 0 then [] else x :: chainN F f (gt F x.toNat).2.2 := rfl
    rw [e, e']
    split
    · rfl
    · rename_i h0
      congr 1
      refine chain_fuel hF f _ ?_
      rcases hF x.toNat (by omega) with e | e
      · exact .inl (by omega)
      · exact .inr ⟨e.2, by omega⟩
theorem chain_neg {x : Int} {f : Nat} (hx : x < 0) : chainN F f x = [] := by
  cases f with
  | zero => rfl
  | succ f => rw [chainN, if_pos hx]
theorem chain_cons (hF : ∀ j, j < n → NextOk n j (gt F j)) {i : Nat} (hi : i < n) : chainN F n (i : Int) = (i : Int) :: chainN F n (gt F i).2.2 := by
  obtain ⟨m, rfl⟩ : ∃ m, n = m + 1 := ⟨n - 1, by omega⟩
  rw [chainN, if_neg (by omega), Int.toNat_natCast, chain_fuel hF m]
  rcases hF i hi with e | e
  · exact .inl (by omega)
  · exact .inr ⟨e.2, by omega⟩

/-- What is known of a rest. -/
structure RestOk (P : List Int) (L : List Leg) (es : List Ev) (x : Tri) (l : List Int) : Prop where
  cost : x.1 = rcI P L es l
  count : x.2.1 = l.length
  asc : Asc es.length l
theorem row_best (hF : ∀ j, j < es.length → NextOk es.length j (gt F j)) {i : Nat} (hi : i < es.length)
    (ih : ∀ j, i < j → j < es.length → RestOk P L es (gt F j) (chainN F es.length j) ∧ ∀ l, Asc es.length ((j : Int) :: l) → BE (gt F j).1 (gt F j).2.1 (chainN F es.length j) (rcI P L es (j :: l)) ((j :: l : List Int).length : Int) (j :: l)) :
    ∀ m, m ≤ es.length - 1 - i → RestOk P L es (rowUp P L es F i m) (i :: chainN F es.length (rowUp P L es F i m).2.2) ∧ ((rowUp P L es F i m).2.2 = -1 ∨ ((es.length : Int) - m ≤ (rowUp P L es F i m).2.2 ∧ (rowUp P L es F i m).2.2 < es.length)) ∧
      ∀ l, Asc es.length ((i : Int) :: l) → (∀ j r, l = j :: r → (es.length : Int) - m ≤ j) → BE (rowUp P L es F i m).1 (rowUp P L es F i m).2.1 (i :: chainN F es.length (rowUp P L es F i m).2.2) (rcI P L es (i :: l)) ((i :: l : List Int).length : Int) (i :: l)
  | 0, _ => by
    have e : chainN F es.length (-1) = [] := chain_neg (by omega)
    refine ⟨⟨?_, ?_, ?_⟩, .inl rfl, fun l ha hl => ?_⟩
    · show _ = rcI P L es (i :: chainN F es.length (-1)); rw [e]; rfl
    · show _ = ((i :: chainN F es.length (-1) : List Int).length : Int); rw [e]; rfl
    · show Asc _ (i :: chainN F es.length (-1)); rw [e]; exact ⟨by omega, by omega⟩
    · cases l with
      | nil => show BE _ _ (i :: chainN F es.length (-1)) _ _ _; rw [e]; exact BE.refl
      | cons j r =>
        have h1 := hl j r rfl
        have h2 := (ha.2.2).head
        omega
  | m + 1, hm => by
    obtain ⟨⟨c1, c2, c3⟩, hnx, hbest⟩ := row_best hF hi ih m (by omega)
    generalize hj : es.length - 1 - m = j
    have hjn : j < es.length := by omega
    obtain ⟨⟨d1, d2, d3⟩, hd⟩ := ih j (by omega) hjn
    have hcj := chain_cons (F := F) hF hjn
    have er : rowUp P L es F i (m + 1) = pickR (rowUp P L es F i m) (candN P L es F i j) := by rw [rowUp, hj]
    rw [er]
    generalize hx : rowUp P L es F i m = x at c1 c2 c3 hnx hbest
    generalize hr : candN P L es F i j = r
    have r1 : r.1 = priceN P L (gt es i) (gt es j) + 30 * ((j : Int) - i - 1) + (gt F j).1 := by rw [← hr]; rfl
    have r2 : r.2.1 = (gt F j).2.1 + 1 := by rw [← hr]; rfl
    have r3 : r.2.2 = (j : Int) := by rw [← hr]; rfl
    have rb : ∀ l, Asc es.length ((i : Int) :: (j : Int) :: l) → BE r.1 r.2.1 (i :: chainN F es.length j) (rcI P L es (i :: j :: l)) ((i :: j :: l : List Int).length : Int) (i :: j :: l) := fun l hl => by
      have := (hd l hl.2.2).lift (d := priceN P L (gt es i) (gt es j) + 30 * ((j : Int) - i - 1)) (i := (i : Int))
      rw [r1, r2]
      exact this
    unfold pickR
    split
    · rename_i hless
      unfold lessR at hless
      rw [decide_eq_true_eq] at hless
      refine ⟨⟨c1, c2, c3⟩, by omega, fun l ha hl => ?_⟩
      cases l with
      | nil => exact hbest [] ha (fun j r h => by cases h)
      | cons a t =>
        by_cases hja : a = (j : Int)
        · subst hja
          have h1 := rb t ha
          refine BE.trans (b := r.1) (y := r.2.1) (m := i :: chainN F es.length j) ?_ h1
          rcases hless with h | ⟨h, h'⟩
          · exact .inl h
          · exact .inr ⟨h, .inl h'⟩
        · refine hbest _ ha fun a' t' e => ?_
          have h1 := hl a t rfl
          cases e
          omega
    · rename_i hless
      unfold lessR at hless
      rw [decide_eq_true_eq] at hless
      rw [r3]
      refine ⟨⟨?_, ?_, ?_⟩, .inr ⟨by omega, by omega⟩, fun l ha hl => ?_⟩
      · rw [r1, d1, hcj]; rfl
      · rw [r2, d2]; simp
      · rw [hcj]; rw [hcj] at d3; exact ⟨by omega, by omega, d3⟩
      · have hbx : BE r.1 r.2.1 (i :: chainN F es.length j) x.1 x.2.1 (i :: chainN F es.length x.2.2) := by
          rcases Int.lt_trichotomy r.1 x.1 with h | h | h
          · exact .inl h
          · refine .inr ⟨h, ?_⟩
            rcases Int.lt_trichotomy x.2.1 r.2.1 with h' | h' | h'
            · exact .inl h'
            · refine .inr ⟨h'.symm, .inr ⟨rfl, ?_⟩⟩
              rcases hnx with e | ⟨e1, e2⟩
              · exfalso
                rw [e, chain_neg (by omega)] at c2
                rw [hcj] at d2
                simp at c2 d2
                omega
              · obtain ⟨q, hq⟩ := Int.eq_ofNat_of_zero_le (show 0 ≤ x.2.2 by omega)
                rw [hq, hcj, chain_cons (F := F) hF (show q < es.length by omega)]
                exact .inl (by omega)
            · exact absurd (.inr ⟨h.symm, h'⟩) hless
          · exact absurd (.inl h) hless
        cases l with
        | nil => exact hbx.trans (hbest [] ha (fun j r h => by cases h))
        | cons a t =>
          by_cases hja : a = (j : Int)
          · subst hja
            exact rb t ha
          · refine hbx.trans (hbest _ ha fun a' t' e => ?_)
            have h1 := hl a t rfl
            cases e
            omega
end
end Go.Proofs.Ytcmhnincbkbncaa.Fn
namespace Go.Proofs.Ytcmhnincbkbncaa.Fn
open Go.AM Go.AM.Sym Go.Net
set_option maxRecDepth 100000
set_option linter.unusedVariables false
set_option linter.unusedSimpArgs false
set_option maxHeartbeats 4000000

section
variable {P : List Int} {L : List Leg} {es : List Ev}
theorem rest_best : ∀ (k i : Nat), es.length - i ≤ k → i < es.length → RestOk P L es (gt (tableN P L es es.length) i) (chainN (tableN P L es es.length) es.length i) ∧
    ∀ l, Asc es.length ((i : Int) :: l) → BE (gt (tableN P L es es.length) i).1 (gt (tableN P L es es.length) i).2.1 (chainN (tableN P L es es.length) es.length i) (rcI P L es (i :: l)) ((i :: l : List Int).length : Int) (i :: l)
  | 0, i, h, hi => by omega
  | k + 1, i, h, hi => by
    have hF : ∀ j, j < es.length → NextOk es.length j (gt (tableN P L es es.length) j) := fun j hj => tableN_next _ (Nat.le_refl _) j (by omega) hj
    obtain ⟨h1, h2, h3⟩ := row_best hF hi (fun j h1 h2 => rest_best k j (by omega) h2) (es.length - 1 - i) (Nat.le_refl _)
    rw [← table_row hi] at h1 h2 h3
    rw [← chain_cons hF hi] at h1 h3
    exact ⟨h1, fun l hl => h3 l hl fun j r e => by
      subst e
      have := hl.2.1
      omega⟩
theorem BE.add {c k c' k' : Int} {l l' : List Int} (d : Int) (h : BE c k l c' k' l') : BE (d + c) k l (d + c') k' l' := by
  rcases h with h | ⟨rfl, h⟩
  · exact .inl (by omega)
  · exact .inr ⟨rfl, h⟩
def tot (P : List Int) (L : List Leg) (es : List Ev) : List Int → Int
  | [] => 0
  | i :: l => 30 * i + rcI P L es (i :: l)
theorem top_best : ∀ m, m ≤ es.length → 0 < m → ∃ h : Nat, h < es.length ∧ es.length - m ≤ h ∧ (topN es.length (tableN P L es es.length) m).2.2 = h ∧ (topN es.length (tableN P L es es.length) m).1 = tot P L es (chainN (tableN P L es es.length) es.length h) ∧ (topN es.length (tableN P L es es.length) m).2.1 = (chainN (tableN P L es es.length) es.length h).length ∧
    ∀ j l, Asc es.length (j :: l) → (es.length : Int) - m ≤ j → BE (topN es.length (tableN P L es es.length) m).1 (topN es.length (tableN P L es es.length) m).2.1 (chainN (tableN P L es es.length) es.length h) (tot P L es (j :: l)) ((j :: l).length : Int) (j :: l)
  | 0, _, h => by omega
  | m + 1, hm, _ => by
    have hF : ∀ j, j < es.length → NextOk es.length j (gt (tableN P L es es.length) j) := fun j hj => tableN_next _ (Nat.le_refl _) j (by omega) hj
    generalize hi : es.length - 1 - m = i
    have hie : i < es.length := by omega
    have ⟨⟨c1, c2, c3⟩, hb⟩ := rest_best (P := P) (L := L) (es := es) es.length i (by omega) hie
    have hci := chain_cons (F := tableN P L es es.length) hF hie
    have et : topN es.length (tableN P L es es.length) (m + 1) = if (topN es.length (tableN P L es es.length) m).2.2 < 0 then topC (tableN P L es es.length) i else pickR (topN es.length (tableN P L es es.length) m) (topC (tableN P L es es.length) i) := by rw [topN, hi]
    generalize hr : topC (tableN P L es es.length) i = r at et
    have r1 : r.1 = 30 * (i : Int) + (gt (tableN P L es es.length) i).1 := by rw [← hr]; rfl
    have r2 : r.2.1 = (gt (tableN P L es es.length) i).2.1 := by rw [← hr]; rfl
    have r3 : r.2.2 = (i : Int) := by rw [← hr]; rfl
    have rt : r.1 = tot P L es (chainN (tableN P L es es.length) es.length i) := by rw [r1, c1, hci]; rfl
    have rl : r.2.1 = (chainN (tableN P L es es.length) es.length i).length := by rw [r2, c2]
    have rb : ∀ l, Asc es.length ((i : Int) :: l) → BE r.1 r.2.1 (chainN (tableN P L es es.length) es.length i) (tot P L es (i :: l)) ((i :: l : List Int).length : Int) (i :: l) := fun l hl => by
      rw [r1, r2]; exact (hb l hl).add _
    by_cases hm0 : m = 0
    · subst hm0
      have e0 : topN es.length (tableN P L es es.length) (0 + 1) = r := by rw [et, if_pos]; show (-1 : Int) < 0; decide
      rw [e0]
      refine ⟨i, hie, by omega, r3, rt, rl, fun j l hl hj => ?_⟩
      have := hl.head
      obtain rfl : j = (i : Int) := by omega
      exact rb l hl
    obtain ⟨h, h1, h2, h3, h4, h5, h6⟩ := top_best m (by omega) (by omega)
    rw [if_neg (by omega)] at et
    rw [et]
    generalize topN es.length (tableN P L es es.length) m = x at h3 h4 h5 h6
    unfold pickR
    split
    · rename_i hless
      unfold lessR at hless
      rw [decide_eq_true_eq] at hless
      refine ⟨h, h1, by omega, h3, h4, h5, fun j l hl hj => ?_⟩
      by_cases hji : j = (i : Int)
      · subst hji
        refine BE.trans (b := r.1) (y := r.2.1) ?_ (rb l hl)
        rcases hless with h | ⟨h, h'⟩
        · exact .inl h
        · exact .inr ⟨h, .inl h'⟩
      · exact h6 j l hl (by omega)
    · rename_i hless
      unfold lessR at hless
      rw [decide_eq_true_eq] at hless
      refine ⟨i, hie, by omega, r3, rt, rl, fun j l hl hj => ?_⟩
      by_cases hji : j = (i : Int)
      · subst hji
        exact rb l hl
      · refine BE.trans ?_ (h6 j l hl (by omega))
        rcases Int.lt_trichotomy r.1 x.1 with h' | h' | h'
        · exact .inl h'
        · refine .inr ⟨h', ?_⟩
          rcases Int.lt_trichotomy x.2.1 r.2.1 with q | q | q
          · exact .inl q
          · refine .inr ⟨q.symm, ?_⟩
            rw [hci, chain_cons (F := tableN P L es es.length) hF h1]
            exact .inl (by omega)
          · exact absurd (.inr ⟨h'.symm, q⟩) hless
        · exact absurd (.inl h') hless
/-- The best itinerary is one, and none is better. -/
theorem bestN_best (hn : 0 < es.length) : bestN P L es ≠ [] ∧ Asc es.length (bestN P L es) ∧ ∀ j l, Asc es.length (j :: l) → BE (tot P L es (bestN P L es)) ((bestN P L es).length : Int) (bestN P L es) (tot P L es (j :: l)) ((j :: l).length : Int) (j :: l) := by
  have hF : ∀ j, j < es.length → NextOk es.length j (gt (tableN P L es es.length) j) := fun j hj => tableN_next _ (Nat.le_refl _) j (by omega) hj
  obtain ⟨h, h1, h2, h3, h4, h5, h6⟩ := top_best (P := P) (L := L) (es := es) es.length (Nat.le_refl _) hn
  have e : bestN P L es = chainN (tableN P L es es.length) es.length h := by unfold bestN; rw [h3]
  rw [e]
  refine ⟨by rw [chain_cons hF h1]; simp, (rest_best es.length h (by omega) h1).1.asc, fun j l hl => ?_⟩
  have := h6 j l hl (by have := hl.head; omega)
  rw [h4, h5] at this
  exact this

theorem stepsN_cons {i j : Int} {l : List Int} : stepsN P L es (i :: j :: l) = (i, j, priceN P L (gt es i.toNat) (gt es j.toNat)) :: stepsN P L es (j :: l) := by
  unfold stepsN
  show (List.range (l.length + 1)).map _ = _
  rw [List.range_succ_eq_map, List.map_cons, List.map_map]
  rfl
theorem tot_cost : ∀ (l : List Int) (i : Int), tot P L es (i :: l) = costN P L es (i :: l)
  | [], i => by
    show 30 * i + 30 * ((es.length : Int) - 1 - i) = 30 * ((es.length : Int) - 1) + 0
    omega
  | j :: l, i => by
    have h := tot_cost l j
    have e1 : tot P L es (i :: j :: l) = 30 * i + (priceN P L (gt es i.toNat) (gt es j.toNat) + 30 * (j - i - 1) + rcI P L es (j :: l)) := rfl
    have e2 : tot P L es (j :: l) = 30 * j + rcI P L es (j :: l) := rfl
    have e3 : costN P L es (i :: j :: l) = 30 * ((es.length : Int) - (l.length + 1 + 1 : Nat)) + sumN (stepsN P L es (i :: j :: l)) := rfl
    have e4 : costN P L es (j :: l) = 30 * ((es.length : Int) - (l.length + 1 : Nat)) + sumN (stepsN P L es (j :: l)) := rfl
    rw [e1, e3, stepsN_cons, sumN]
    rw [e2, e4] at h
    simp only
    omega
theorem asc_of {n : Nat} : ∀ (ks : List Int), (∀ i, i < ks.length → ascOk n ks i) → Asc n ks
  | [], _ => trivial
  | [i], h => ⟨(h 0 (by simp)).1, (h 0 (by simp)).2.1⟩
  | i :: j :: l, h => by
    refine ⟨(h 0 (by simp)).1, (h 1 (by simp)).2.2 (by omega), asc_of (j :: l) fun k hk => ?_⟩
    have h1 := h (k + 1) (by simp at hk ⊢; omega)
    refine ⟨h1.1, h1.2.1, fun h0 => ?_⟩
    have h2 := h1.2.2 (by omega)
    obtain ⟨q, rfl⟩ : ∃ q, k = q + 1 := ⟨k - 1, by omega⟩
    exact h2
theorem of_asc {n : Nat} : ∀ (ks : List Int), Asc n ks → ∀ i, i < ks.length → ascOk n ks i
  | [], _, i, hi => by cases hi
  | [a], h, i, hi => by
    obtain rfl : i = 0 := by simp at hi; omega
    exact ⟨h.1, h.2, fun h => by omega⟩
  | a :: b :: l, h, 0, hi => ⟨h.head.1, h.head.2, fun h => by omega⟩
  | a :: b :: l, h, 1, hi => ⟨h.2.2.head.1, h.2.2.head.2, fun _ => h.2.1⟩
  | a :: b :: l, h, i + 2, hi => by
    have h1 := of_asc (b :: l) h.2.2 (i + 1) (by simp at hi ⊢; omega)
    exact ⟨h1.1, h1.2.1, fun _ => h1.2.2 (by omega)⟩
theorem bestN_ok : KsOk es.length (bestN P L es) := by
  by_cases hn : 0 < es.length
  · obtain ⟨h1, h2, _⟩ := bestN_best (P := P) (L := L) hn
    exact ⟨fun h => absurd (List.length_eq_zero_iff.1 h) h1, of_asc _ h2⟩
  · have e : bestN P L es = [] := by
      have := chainN_len (T := tableN P L es es.length) es.length (topN es.length (tableN P L es es.length) es.length).2.2
      exact List.length_eq_zero_iff.1 (by unfold bestN; omega)
    exact ⟨fun _ => by omega, fun i hi => by rw [e] at hi; cases hi⟩
/-- No itinerary is better than the best one. -/
theorem best_all {ks : List Int} (hk : KsOk es.length ks) : BE (costN P L es (bestN P L es)) ((bestN P L es).length : Int) (bestN P L es) (costN P L es ks) (ks.length : Int) ks := by
  cases ks with
  | nil =>
    have h0 := hk.1 rfl
    have e : bestN P L es = [] := by
      have := chainN_len (T := tableN P L es es.length) es.length (topN es.length (tableN P L es es.length) es.length).2.2
      exact List.length_eq_zero_iff.1 (by unfold bestN; omega)
    rw [e]
    exact BE.refl
  | cons j l =>
    have ha := asc_of _ hk.2
    have hn : 0 < es.length := by have := ha.head; omega
    obtain ⟨h1, h2, h3⟩ := bestN_best (P := P) (L := L) hn
    have := h3 j l ha
    rw [tot_cost] at this
    generalize bestN P L es = b at *
    cases b with
    | nil => exact absurd rfl h1
    | cons a t => rw [tot_cost] at this; exact this
end
end Go.Proofs.Ytcmhnincbkbncaa.Fn
namespace Go.Proofs.Ytcmhnincbkbncaa.Fn
open Go.AM Go.AM.Sym Go.Net
set_option maxRecDepth 100000
set_option linter.unusedVariables false
set_option linter.unusedSimpArgs false
set_option maxHeartbeats 4000000

section
variable {P : List Int} {L : List Leg} {es : List Ev}
theorem costN_nonneg {ks : List Int} (h : KsOk es.length ks) : 0 ≤ costN P L es ks := by
  have h1 := asc_len h.2
  have h2 := sumN_range (P := P) (L := L) (es := es) (ks := ks) (ks.length - 1)
  unfold costN stepsN
  omega
theorem steps_take {n : Nat} {ks : List Int} (h : ∀ k ∈ ks, 0 ≤ k ∧ k < n) : stepsN P L (es.take n) ks = stepsN P L es ks := by
  unfold stepsN
  refine List.map_congr_left fun i hi => ?_
  rw [List.mem_range] at hi
  have h1 := h _ (gt_mem (l := ks) (i := i) (by omega))
  have h2 := h _ (gt_mem (l := ks) (i := i + 1) (by omega))
  unfold stepN
  rw [gt_take (by omega), gt_take (by omega)]
theorem sum_snoc_le {x : Int} : ∀ (l : List Int) (a : Int), sumN (stepsN P L es (a :: l)) ≤ sumN (stepsN P L es (a :: l ++ [x]))
  | [], a => by
    show sumN (stepsN P L es [a]) ≤ sumN (stepsN P L es [a, x])
    rw [stepsN_cons, sumN]
    have h1 := priceN_range (P := P) (L := L) (a := gt es a.toNat) (b := gt es x.toNat)
    have e : ∀ b, sumN (stepsN P L es [b]) = 0 := fun b => rfl
    rw [e, e]
    simp only
    omega
  | b :: l, a => by
    have h := sum_snoc_le (x := x) l b
    show sumN (stepsN P L es (a :: b :: l)) ≤ sumN (stepsN P L es (a :: b :: (l ++ [x])))
    rw [stepsN_cons, stepsN_cons, sumN, sumN]
    have h' : sumN (stepsN P L es (b :: l)) ≤ sumN (stepsN P L es (b :: (l ++ [x]))) := h
    omega
theorem KsOk.mono {n m : Nat} {ks : List Int} (h : KsOk n ks) (hn : 0 < n) (hm : n ≤ m) : KsOk m ks :=
  ⟨fun h0 => by have := h.1 h0; omega, fun i hi => by obtain ⟨a, b, c⟩ := h.2 i hi; exact ⟨a, by omega, c⟩⟩
def bestC (P : List Int) (L : List Leg) (es : List Ev) : Int := costN P L es (bestN P L es)
theorem bestC_le {ks : List Int} (h : KsOk es.length ks) : bestC P L es ≤ costN P L es ks := by
  rcases best_all (P := P) (L := L) h with h | ⟨h, _⟩
  · exact Int.le_of_lt h
  · exact Int.le_of_eq h
theorem ks0 {n : Nat} (hn : 0 < n) : KsOk n [0] := by
  refine ⟨(fun h => by cases h), fun i hi => ?_⟩
  obtain rfl : i = 0 := by simp at hi; omega
  refine ⟨Int.le_refl _, ?_, fun h => by omega⟩
  show (0 : Int) < n
  omega
theorem bestC_zero (hn : 0 < es.length) : bestC P L es ≤ 30 * ((es.length : Int) - 1) := by
  have := bestC_le (P := P) (L := L) (ks0 hn)
  have e : costN P L es [0] = 30 * ((es.length : Int) - 1) + 0 := rfl
  omega
theorem bestC_nonneg : 0 ≤ bestC P L es := costN_nonneg bestN_ok
theorem asc_split {n : Nat} : ∀ (l : List Int), l ≠ [] → Asc (n + 1) l → Asc n l ∨ ∃ m, l = m ++ [(n : Int)] ∧ Asc n m
  | [], h, _ => absurd rfl h
  | [a], _, h => by
    by_cases ha : a < n
    · exact .inl ⟨h.1, ha⟩
    · have := h.2
      obtain rfl : a = (n : Int) := by omega
      exact .inr ⟨[], rfl, trivial⟩
  | a :: b :: l, _, h => by
    rcases asc_split (b :: l) (by simp) h.2.2 with h1 | ⟨m, h1, h2⟩
    · exact .inl ⟨h.1, h.2.1, h1⟩
    · refine .inr ⟨a :: m, by rw [h1]; rfl, ?_⟩
      cases m with
      | nil =>
        have h3 := h.2.1
        simp at h1
        exact ⟨h.1, by omega⟩
      | cons c m =>
        have h3 := h.2.1
        simp at h1
        exact ⟨h.1, by omega, h2⟩
/-- One event more. -/
theorem bestC_grows {n : Nat} (h0 : 0 < n) (hn : n < es.length) : bestC P L (es.take n) ≤ bestC P L (es.take (n + 1)) ∧ bestC P L (es.take (n + 1)) ≤ bestC P L (es.take n) + 30 := by
  have l0 : (es.take n).length = n := by rw [List.length_take]; omega
  have l1 : (es.take (n + 1)).length = n + 1 := by rw [List.length_take]; omega
  constructor
  · have hk := bestN_ok (P := P) (L := L) (es := es.take (n + 1))
    unfold bestC
    generalize bestN P L (es.take (n + 1)) = ks at hk
    rw [l1] at hk
    have hne : ks ≠ [] := fun e => by have := hk.1 (by rw [e]; rfl); omega
    have hm := hk.mem
    rcases asc_split ks hne (asc_of _ hk.2) with h | ⟨m, rfl, h⟩
    · have hk' : KsOk (es.take n).length ks := by rw [l0]; exact ⟨fun e => absurd (List.length_eq_zero_iff.1 e) hne, of_asc _ h⟩
      have h1 := bestC_le (P := P) (L := L) hk'
      have hm' := hk'.mem
      rw [l0] at hm'
      unfold bestC costN at *
      rw [l0] at *
      rw [l1, steps_take hm]
      rw [steps_take hm', ] at h1
      omega
    · cases m with
      | nil =>
        have h1 := bestC_zero (P := P) (L := L) (es := es.take n) (by omega)
        have e : costN P L (es.take (n + 1)) ([] ++ [(n : Int)]) = 30 * (((es.take (n + 1)).length : Int) - 1) + 0 := rfl
        rw [e]
        rw [l1]
        unfold bestC at h1
        rw [l0] at h1
        omega
      | cons a m =>
        have hk' : KsOk (es.take n).length (a :: m) := by rw [l0]; exact ⟨fun e => by simp at e, of_asc _ h⟩
        have h1 := bestC_le (P := P) (L := L) hk'
        have hm' := hk'.mem
        rw [l0] at hm'
        have h2 := sum_snoc_le (P := P) (L := L) (es := es) (x := (n : Int)) m a
        unfold bestC at h1
        have e1 : costN P L (es.take (n + 1)) (a :: m ++ [(n : Int)]) = 30 * (((n + 1 : Nat) : Int) - ((a :: m ++ [(n : Int)]).length : Int)) + sumN (stepsN P L es (a :: m ++ [(n : Int)])) := by unfold costN; rw [l1, steps_take hm]
        have e2 : costN P L (es.take n) (a :: m) = 30 * ((n : Int) - ((a :: m).length : Int)) + sumN (stepsN P L es (a :: m)) := by unfold costN; rw [l0, steps_take hm']
        rw [e1]
        rw [e2] at h1
        have e3 : ((a :: m ++ [(n : Int)]).length : Int) = ((a :: m).length : Int) + 1 := by simp
        rw [e3]
        omega
  · have hk := bestN_ok (P := P) (L := L) (es := es.take n)
    have hm := hk.mem
    rw [l0] at hk hm
    have h1 := bestC_le (P := P) (L := L) (es := es.take (n + 1)) (ks := bestN P L (es.take n)) (by rw [l1]; exact hk.mono h0 (by omega))
    have e1 : costN P L (es.take (n + 1)) (bestN P L (es.take n)) = 30 * (((n + 1 : Nat) : Int) - ((bestN P L (es.take n)).length : Int)) + sumN (stepsN P L es (bestN P L (es.take n))) := by
      unfold costN; rw [l1, steps_take fun k hk => by have := hm k hk; omega]
    have e2 : bestC P L (es.take n) = 30 * ((n : Int) - ((bestN P L (es.take n)).length : Int)) + sumN (stepsN P L es (bestN P L (es.take n))) := by unfold bestC costN; rw [l0, steps_take hm]
    omega
end
end Go.Proofs.Ytcmhnincbkbncaa.Fn
namespace Go.Proofs.Ytcmhnincbkbncaa.Fn
open Go.AM Go.AM.Sym Go.Net
set_option maxRecDepth 100000
set_option linter.unusedVariables false
set_option linter.unusedSimpArgs false
set_option maxHeartbeats 4000000

theorem kinds_range {j : Nat} (hj : j < 5) : 1 ≤ gt kinds j ∧ gt kinds j ≤ 4 := by
  have : j = 0 ∨ j = 1 ∨ j = 2 ∨ j = 3 ∨ j = 4 := by omega
  rcases this with rfl | rfl | rfl | rfl | rfl <;> decide
theorem seenN_get {ls : List Lk} {m i : Nat} (h : i < m) : gt (seenN ls m) i = evN ls i := by
  rw [gt_lt (by rw [seenN_len]; exact h)]; simp [seenN]
theorem seenN_right {ls : List Lk} (hb : ∀ x ∈ ls, ByK x) {m : Nat} (hm : m ≤ ls.length) (h40 : m ≤ 40) : EvsOk (seenN ls m) := fun i hi => by
  rw [seenN_len] at hi
  have hby := hb _ (gt_mem (l := ls) (i := i) (by omega))
  have t1 := timeN_bnd hb (i + 1) (by omega)
  have ta1 := Int.tmod_lt_of_pos (gt ls i).a (show (0 : Int) < 6 by decide)
  have ta2 := Int.tmod_nonneg (6 : Int) hby.1.1
  have tb1 := Int.tmod_lt_of_pos (gt ls i).b (show (0 : Int) < 5 by decide)
  have tb2 := Int.tmod_nonneg (5 : Int) hby.2.1.1
  have tc2 := Int.tmod_nonneg (2000 : Int) hby.2.2.1
  have kr := kinds_range (j := ((gt ls i).b.tmod 5).toNat) (by omega)
  have ht : timeN ls (i + 1) = timeN ls i + (gt ls i).c.tmod 2000 := rfl
  have mt : maxTime = 1051898399 := rfl
  unfold evOk
  rw [seenN_get hi]
  refine ⟨⟨?_, ?_, ?_, ?_, ?_, ?_⟩, ?_, ?_, fun h0 => ⟨?_, ?_⟩⟩
  · show (1 : Int) ≤ 7 ∧ (7 : Int) ≤ 999999; decide
  · show 1 ≤ 1 + (gt ls i).a.tmod 6 ∧ 1 + (gt ls i).a.tmod 6 ≤ 999999; omega
  · show (1 : Int) ≤ 1 ∧ (1 : Int) ≤ 999999; decide
  · exact kr
  · show 0 ≤ timeN ls (i + 1) ∧ timeN ls (i + 1) ≤ maxTime; omega
  · show 0 ≤ timeN ls (i + 1) ∧ timeN ls (i + 1) ≤ maxTime; omega
  · show 0 ≤ timeN ls (i + 1); omega
  · show timeN ls (i + 1) ≤ maxTime; omega
  · rw [seenN_get (by omega)]; rfl
  · obtain ⟨k, rfl⟩ : ∃ k, i = k + 1 := ⟨i - 1, by omega⟩
    rw [Nat.add_sub_cancel, seenN_get (by omega)]
    show timeN ls (k + 1) ≤ timeN ls (k + 1 + 1)
    omega
theorem seenN_take {ls : List Lk} {m n : Nat} (h : n ≤ m) : (seenN ls m).take n = seenN ls n := by
  unfold seenN
  rw [← List.map_take, List.take_range, Nat.min_eq_left h]
end Go.Proofs.Ytcmhnincbkbncaa.Fn
namespace Go.Proofs.Ytcmhnincbkbncaa.Fn
open Go.AM Go.AM.Sym Go.Net
set_option maxRecDepth 100000
set_option linter.unusedVariables false
set_option linter.unusedSimpArgs false
set_option maxHeartbeats 4000000

theorem gt_app_lt {α : Type} [Inhabited α] {l m : List α} {i : Nat} (h : i < l.length) : gt (l ++ m) i = gt l i := by
  rw [gt_lt (by simp; omega), gt_lt h, List.getElem_append_left h]
theorem gt_app_eq {α : Type} [Inhabited α] {l : List α} {x : α} : gt (l ++ [x]) l.length = x := by
  rw [gt_lt (by simp), List.getElem_append_right (Nat.le_refl _)]
  simp
theorem legs_snoc {P : List Int} {M : List Leg} {l : Leg} (h : LegsOk P M) (h1 : Fine l) (h2 : l.id ∉ M.map (·.id)) (h3 : l.frm ∈ P) (h4 : l.dst ∈ P) : LegsOk P (M ++ [l]) := fun i hi => by
  rw [List.length_append, List.length_singleton] at hi
  rcases Nat.lt_or_ge i M.length with h5 | h5
  · have := h i h5
    unfold lOk at *
    rw [gt_app_lt h5, List.take_append_of_le_length (by omega)]
    exact this
  · obtain rfl : i = M.length := by omega
    unfold lOk
    rw [gt_app_eq, List.take_append_of_le_length (Nat.le_refl _), List.take_length]
    exact ⟨h1, h2, h3, h4⟩
theorem in_P5 {a : Int} (h1 : 1 ≤ a) (h2 : a ≤ 5) : a ∈ P5 := by
  have : a = 1 ∨ a = 2 ∨ a = 3 ∨ a = 4 ∨ a = 5 := by omega
  rcases this with rfl | rfl | rfl | rfl | rfl <;> decide
theorem netL_ok {rs : List RL} (hb : ∀ x ∈ rs, ByR x) : ∀ n, n ≤ rs.length → n ≤ 10 → LegsOk P5 (netL rs n)
  | 0, _, _ => fun i hi => by cases hi
  | n + 1, hn, h10 => by
    have ih := netL_ok hb n (by omega) (by omega)
    rw [netL]
    split
    · rename_i hne
      obtain ⟨ha, hb', hc, hd, he, hf⟩ := hb _ (gt_mem (l := rs) (i := n) (by omega))
      have ta1 := Int.tmod_lt_of_pos (gt rs n).a (show (0 : Int) < 5 by decide)
      have ta2 := Int.tmod_nonneg (5 : Int) ha.1
      have tb1 := Int.tmod_lt_of_pos (gt rs n).b (show (0 : Int) < 5 by decide)
      have tb2 := Int.tmod_nonneg (5 : Int) hb'.1
      have te1 := Int.tmod_lt_of_pos (gt rs n).e (show (0 : Int) < 60 by decide)
      have te2 := Int.tmod_nonneg (60 : Int) he.1
      have tf1 := Int.tmod_lt_of_pos (gt rs n).f (show (0 : Int) < 127 by decide)
      have tf2 := Int.tmod_nonneg (127 : Int) hf.1
      refine legs_snoc ih ?_ ?_ ?_ ?_
      · unfold Fine legR at *
        simp only at *
        omega
      · intro hm
        obtain ⟨l, h1, h2⟩ := List.mem_map.1 hm
        obtain ⟨i, h3, rfl, _⟩ := netL_mem h1
        unfold legR at h2
        simp only at h2
        omega
      · refine in_P5 ?_ ?_ <;> (unfold legR; simp only; omega)
      · refine in_P5 ?_ ?_ <;> (unfold legR; simp only; omega)
    · exact ih
theorem plants5 : PlantsOk P5 := by decide
theorem netL_valid {rs : List RL} (hb : ∀ x ∈ rs, ByR x) {n : Nat} (hn : n ≤ rs.length) (h10 : n ≤ 10) : validN P5 (netL rs n) = 0 := by
  have h1 := netL_len rs n
  unfold validN
  rw [if_neg (by have : P5.length = 5 := rfl; omega), if_neg (by simpa using plants5), if_neg (by simpa using netL_ok hb n hn h10)]
theorem err_none {rs : List RL} {ls : List Lk} (hb : ∀ x ∈ rs, ByR x) (hk : ∀ x ∈ ls, ByK x) {n m : Nat} (hn : n ≤ rs.length) (h10 : n ≤ 10) (hm : m ≤ ls.length) (h40 : m ≤ 40) : errI P5 (netL rs n) (seenN ls m) = 0 := by
  unfold errI
  rw [if_neg (by rw [netL_valid hb hn h10]; simp), if_neg (by rw [seenN_len]; omega), if_pos (seenN_right hk hm h40)]
end Go.Proofs.Ytcmhnincbkbncaa.Fn
