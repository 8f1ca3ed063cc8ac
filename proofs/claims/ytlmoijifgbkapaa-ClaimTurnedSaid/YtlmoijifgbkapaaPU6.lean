/-
  Joined texts, 6 of 9. A part of the claim that the last text states.
-/
import Derived.Test.YtlmoijifgbkapaaPU5
namespace Go.Proofs.Ytlmoijifgbkapaa.Fn
open Go.AM Go.AM.Sym Go.Sort
set_option maxRecDepth 100000
set_option linter.unusedVariables false
set_option linter.unusedSimpArgs false
set_option maxHeartbeats 4000000

theorem goO_at {l : List Std} {t : List Trm} {s : List Snt} : ∀ (d : List Clm) (p : List Int) (i : Nat), i < d.length → gt (goO l t s p d) i = outO l t s ((d.take i).foldl (paidN l t s) p) (gt d i)
  | x :: d, p, 0, _ => rfl
  | x :: d, p, i + 1, h => by
    rw [goO, gt_cons_succ, goO_at d _ i (by simpa using h), gt_cons_succ]; rfl
theorem find_id {c : List Clm} {x : Clm} (hc : c.Pairwise (fun a b => a.id ≠ b.id)) (hx : x ∈ c) : (c.find? fun y => decide (y.id = x.id)) = some x := by
  induction c with
  | nil => cases hx
  | cons y c ih =>
    rw [List.pairwise_cons] at hc
    rw [List.find?_cons]
    rcases List.mem_cons.1 hx with rfl | hx
    · simp
    · have := hc.1 x hx
      simp only [show ¬ y.id = x.id from this, decide_false]
      exact ih hc.2 hx
theorem rightC_single {x : Clm} (h1 : okC x = true) (h2 : x.kind = 1 ∨ x.kind = 2) : rightC [x] = true := by
  unfold rightC
  simp only [Bool.and_eq_true, List.length_singleton]
  refine ⟨by simp, ?_⟩
  rw [allFrom_step (by simp), allFrom_end, Bool.and_true]
  simp [okCAt, gt_cons_zero, h1, h2]
theorem check_single {l : List Std} {t : List Trm} {s : List Snt} {c : List Clm} {x : Clm} (h : checkS l t s c = 0) (hx : x ∈ c) : checkS l t s [x] = 0 := by
  obtain ⟨r1, r2, r3, r4⟩ := checkS_ok h
  obtain ⟨o1, o2⟩ := rightC_mem r4 hx
  unfold checkS
  rw [r1, r2, r3, rightC_single o1 o2]
  simp
theorem decide_cents {l : List Std} {t : List Trm} {s : List Snt} {x : Clm} (hr : right l = true) (ht : rightT t = true) (hs : rightN s = true) (h1 : okC x = true) (h2 : x.kind = 1 ∨ x.kind = 2) :
    0 ≤ (decideS l t s x).1 ∧ (0 < (decideS l t s x).1 → (decideS l t s x).2 = 6) := by
  have hf := file_ok (l := l) (t := t) (s := s) x hr ht hs
  simp only [okC, allIn, inB, Bool.and_eq_true, decide_eq_true_eq, Bool.and_true] at h1
  have hp := hf.lmt
  have hm : (vrd x (fileS l t s x)).2 = 6 → 0 ≤ (vrd x (fileS l t s x)).1 := by
    rcases h2 with k | k
    · exact fun _ => (vrd_late k (by omega) hf).1
    · intro _
      unfold vrd
      repeat' split
      all_goals first | (simp; done) | skip
      all_goals simp only [paidS, k, if_pos, minI]
      all_goals (first | omega | (split <;> omega))
  unfold decideS
  generalize hv : vrd x (fileS l t s x) = v at hm
  have hz : v.2 = 6 ∨ v.1 = 0 := by
    rw [← hv]
    unfold vrd
    repeat' split
    all_goals simp
  rcases hz with h | h
  · exact ⟨hm h, fun _ => h⟩
  · exact ⟨by omega, fun q => by omega⟩
def cntMap (ks : List Int) : List (Value × Value) := ks.map fun k => (.int .i64 k, .int .i64 1)
theorem cnt_no {ks : List Int} {a : Int} {i : Nat} (h : a ∉ ks) : findKey (.int .i64 a) (cntMap ks) i = some none := by
  unfold cntMap
  exact findKey_no (f := fun k : Int => k) (g := fun _ => .int .i64 1) fun x hx e => h (e ▸ hx)
theorem cnt_yes {ks : List Int} {a : Int} {i : Nat} (h : a ∈ ks) : ∃ j, findKey (.int .i64 a) (cntMap ks) i = some (some (j, .int .i64 1)) := by
  unfold cntMap
  exact findKey_yes (f := fun k : Int => k) (g := fun _ => .int .i64 1) ⟨a, h, rfl⟩ fun _ _ _ => rfl
theorem cnt_add {ks : List Int} {a : Int} : cntMap ks ++ [(.int .i64 a, .int .i64 1)] = cntMap (ks ++ [a]) := by simp [cntMap]

theorem eqO {a b c : Int} : aEq (.agg [.int .i64, .int .i64, .int .u8]) (.agg #[.int .i64 a, .int .i64 b, .int .u8 c]) (.agg #[.int .i64 a, .int .i64 b, .int .u8 c]) = some true := by
  simp [aEq, cellsEq, cellEq]
def lastC (d : List Clm) (i : Nat) : Clm := if i = 0 then ⟨0, 0, -1, 0, 0, 0⟩ else gt d (i - 1)
theorem last_lt {d : List Clm} {i : Nat} (h : d.Pairwise Lt) (hi : i < d.length) (h0 : 0 ≤ (gt d i).tm) : Lt (lastC d i) (gt d i) := by
  unfold lastC
  split
  · exact .inl (by simp only; omega)
  · rw [gt_lt hi, gt_lt (show i - 1 < d.length by omega)]
    exact List.pairwise_iff_getElem.1 h (i - 1) i (by omega) hi (by omega)
theorem ClaimOnce_ok {mp : Bool} {lim : Nat} {pl pt ps pk : Option Addr} {l : List Std} {t : List Trm} {s : List Snt} {c : List Clm} {k1 k2 k3 k4 : Nat} {H : Heap} {Q : Value → Heap → Prop} (hl : Sl H encS 4 pl l) (ht : Sl H encT 7 pt t) (hs : Sl H encN 6 ps s) (hc : Sl H encC 6 pk c) (hpn : c ≠ [] → pk ≠ none) :
    CallR E mp lim 8 [.slice pl l.length k1, .slice pt t.length k2, .slice ps s.length k3, .slice pk c.length k4] H Q = Q (.bool true) H := by
  refine pc (by decide) e8 rfl rfl ?_
  rw [b8, c8]
  by_cases h60 : l.length ≤ 60 ∧ t.length ≤ 60 ∧ s.length ≤ 60 ∧ c.length ≤ 60
  case neg => simp only [n8, r8, awake_ok, few_ok, h60, SB, Nat.reduceLT, callee, aOp, ne_eq, Nat.reduceEqDiff, aBin, aUn, if_true, if_false, reduceCtorEq, frame0, place, notTuple, Nat.reduceAdd, Nat.reduceLeDiff, resVal, dite_true, dite_false, Int.reduceEq, Int.reduceLT, Int.reduceLE]
  obtain ⟨n1, n2, n3, n4⟩ := h60
  by_cases hck : checkS l t s c = 0
  case neg =>
    have hse := fun X Q => Settle_bad (lim := H.length) (k1 := k1) (k2 := k2) (k3 := k3) (k4 := k4) (Q := Q) (hl.app X) (ht.app X) (hs.app X) (hc.app X) (by omega) (by omega) (by omega) (by omega) hck
    have hR := fun mp lim X Q => Right_ok mp lim (cap := k1) (Q := Q) (hl.app X) (by omega)
    have hT := fun mp lim X Q => RightTerms_ok mp lim (cap := k2) (Q := Q) (ht.app X) (by omega)
    have hN := fun mp lim X Q => RightSent_ok mp lim (cap := k3) (Q := Q) (hs.app X) (by omega)
    have hC := fun mp lim X Q => RightClaims_ok mp lim (cap := k4) (Q := Q) (hc.app X) (by omega)
    have h4 : right l = false ∨ right l = true ∧ rightT t = false ∨ right l = true ∧ rightT t = true ∧ rightN s = false ∨ right l = true ∧ rightT t = true ∧ rightN s = true ∧ rightC c = false := by
      cases a1 : right l <;> cases a2 : rightT t <;> cases a3 : rightN s <;> cases a4 : rightC c <;> simp [checkS, a1, a2, a3, a4] at hck ⊢
    rcases h4 with a1 | ⟨a1, a2⟩ | ⟨a1, a2, a3⟩ | ⟨a1, a2, a3, a4⟩
    · simp only [n8, r8, awake_ok, few_ok, n1, n2, n3, n4, hse, hck, hR, hT, hN, hC, a1, SB, Nat.reduceLT, callee, aOp, ne_eq, Nat.reduceEqDiff, aBin, aUn, if_true, if_false, reduceCtorEq, frame0, place, notTuple, Nat.reduceAdd, Nat.reduceLeDiff, resVal, dite_true, dite_false, Int.reduceEq, Int.reduceLT, Int.reduceLE]
    · simp only [n8, r8, awake_ok, few_ok, n1, n2, n3, n4, hse, hck, hR, hT, hN, hC, a1, a2, SB, Nat.reduceLT, callee, aOp, ne_eq, Nat.reduceEqDiff, aBin, aUn, if_true, if_false, reduceCtorEq, frame0, place, notTuple, Nat.reduceAdd, Nat.reduceLeDiff, resVal, dite_true, dite_false, Int.reduceEq, Int.reduceLT, Int.reduceLE]
    · simp only [n8, r8, awake_ok, few_ok, n1, n2, n3, n4, hse, hck, hR, hT, hN, hC, a1, a2, a3, SB, Nat.reduceLT, callee, aOp, ne_eq, Nat.reduceEqDiff, aBin, aUn, if_true, if_false, reduceCtorEq, frame0, place, notTuple, Nat.reduceAdd, Nat.reduceLeDiff, resVal, dite_true, dite_false, Int.reduceEq, Int.reduceLT, Int.reduceLE]
    · simp only [n8, r8, awake_ok, few_ok, n1, n2, n3, n4, hse, hck, hR, hT, hN, hC, a1, a2, a3, a4, SB, Nat.reduceLT, callee, aOp, ne_eq, Nat.reduceEqDiff, aBin, aUn, if_true, if_false, reduceCtorEq, frame0, place, notTuple, Nat.reduceAdd, Nat.reduceLeDiff, resVal, dite_true, dite_false, Int.reduceEq, Int.reduceLT, Int.reduceLE]
  obtain ⟨r1, r2, r3, r4⟩ := checkS_ok hck
  obtain ⟨d, po, Y, hp, hlt, hout, hse⟩ := Settle_ok (lim := H.length) (k1 := k1) (k2 := k2) (k3 := k3) (k4 := k4) hl ht hs hc (by omega) (by omega) (by omega) (by omega) (Nat.le_refl _) hck hpn
  have hdl : d.length = c.length := hp.length_eq
  obtain ⟨G1, hG1⟩ : ∃ G, G = H ++ Y := ⟨_, rfl⟩
  have hE1 : Ext H G1 := ⟨Y, hG1⟩
  rw [← hG1] at hout
  have hse' : ∀ Q, CallR E false H.length 25 [.slice pl l.length k1, .slice pt t.length k2, .slice ps s.length k3, .slice pk c.length k4] (H ++ []) Q = Q (.tuple #[.slice po c.length c.length, .int .i64 0]) (G1 ++ []) := fun Q => by rw [List.append_nil, List.append_nil, hG1]; exact hse Q
  have hlG1 := hE1.len
  simp only [n8, r8, awake_ok, few_ok, n1, n2, n3, n4, hse', hlG1, SB, Nat.reduceLT, callee, aOp, ne_eq, Nat.reduceEqDiff, aBin, aUn, if_true, if_false, reduceCtorEq, frame0, place, notTuple, Nat.reduceAdd, Nat.reduceLeDiff, resVal, dite_true, dite_false, Int.reduceEq, Int.reduceLT, Int.reduceLE]
  refine Ret_rounds (fun i => c.length - i) (fun i fr G => i ≤ c.length ∧ fr 0 = .slice pl l.length k1 ∧ fr 1 = .slice pt t.length k2 ∧ fr 2 = .slice ps s.length k3 ∧ fr 3 = .slice pk c.length k4 ∧ fr 9 = .slice po c.length c.length ∧ fr 11 = .map (some G1.length) ∧ fr 12 = .pointer (some ⟨G1.length + 1, 0, none⟩) ∧
    fr 13 = .int .i64 (i : Int) ∧ Ext G1 G ∧ G1.length + 1 < G.length ∧ hget G G1.length = .map (cntMap (paidA l t s (d.take i))) ∧ hget G (G1.length + 1) = .cells false (encC (lastC d i)))
    0 ⟨Nat.zero_le _, (by simp only [upd_same, upd_ne, ne_eq, Nat.reduceEqDiff, not_false_eq_true, frame0, List.getD_cons_zero, List.getD_cons_succ]), (by simp only [upd_same, upd_ne, ne_eq, Nat.reduceEqDiff, not_false_eq_true, frame0, List.getD_cons_zero, List.getD_cons_succ]), (by simp only [upd_same, upd_ne, ne_eq, Nat.reduceEqDiff, not_false_eq_true, frame0, List.getD_cons_zero, List.getD_cons_succ]), (by simp only [upd_same, upd_ne, ne_eq, Nat.reduceEqDiff, not_false_eq_true, frame0, List.getD_cons_zero, List.getD_cons_succ]), (by simp only [upd_same, upd_ne, ne_eq, Nat.reduceEqDiff, not_false_eq_true, frame0, List.getD_cons_zero, List.getD_cons_succ]), (by simp only [upd_same, upd_ne, ne_eq, Nat.reduceEqDiff, not_false_eq_true, frame0, List.getD_cons_zero, List.getD_cons_succ]), (by simp only [upd_same, upd_ne, ne_eq, Nat.reduceEqDiff, not_false_eq_true, frame0, List.getD_cons_zero, List.getD_cons_succ]), by rfl, Ext.refl.app, by simp, hget_new0, hget_new⟩ ?_
  intro i fr G ⟨hi, g0, g1, g2, g3, g9, g11, g12, g13, hE2, hL, hM, hLa⟩ hN
  rw [Ret_code l8_1.eq_1]
  refine Ret_pad ?_
  by_cases hlt' : i < c.length
  case neg =>
    obtain rfl : i = c.length := by omega
    simp only [n8, r8, g0, g1, g2, g3, g9, g11, g12, g13, hlt', SB, Nat.reduceLT, callee, aOp, ne_eq, Nat.reduceEqDiff, aBin, aUn, if_true, if_false, reduceCtorEq, frame0, place, notTuple, Nat.reduceAdd, Nat.reduceLeDiff, resVal, dite_true, dite_false, Int.reduceEq, Int.reduceLT, Int.reduceLE]
  have hid : i < d.length := by omega
  have hxc : gt d i ∈ c := hp.subset (gt_mem hid)
  obtain ⟨o1, o2⟩ := rightC_mem r4 hxc
  have hx1 := check_single hck hxc
  obtain ⟨z1, z2⟩ := decide_cents (l := l) (t := t) (s := s) r1 r2 r3 o1 o2
  have htm : 0 ≤ (gt d i).tm := by
    simp only [okC, allIn, inB, Bool.and_eq_true, decide_eq_true_eq, Bool.and_true] at o1; omega
  have hord := last_lt hlt hid htm
  have hE : Ext H G := hE1.trans hE2
  have hlG : H.length ≤ G.length := hE.len
  have hlGp : H.length ≤ G1.length + 1 := by omega
  have hgol : (goO l t s [] d).length = c.length := by rw [goO_len, hdl]
  have hio : i < (goO l t s [] d).length := by omega
  have hat := goO_at (l := l) (t := t) (s := s) d [] i hid
  have hoG : Sl G encO 3 po (goO l t s [] d) := hE2.sl hout
  have hidxo : ∀ k (kk : IntKind) (H1 : Heap), idxK 3 (.slice po c.length k) (.int kk (i : Int)) H1 = some (.pointer (some (elt po 3 i)), H1) := fun k kk H1 => by rw [← hgol]; exact hoG.idx hio
  have hldo := fun X j hj => (hoG.app X).loadCell (j := j) encO_len hio hj
  have hw1 : IntKind.i64.wrap ((i : Int) + 1) = ((i + 1 : Nat) : Int) := wrap_nat (by omega)
  have hlit' : (i : Int) < (c.length : Int) := by omega
  have hfc := fun mp lim X n Q => findC_ok (mp := mp) (lim := lim) (cap := k4) (n := n) (Q := Q) ((hE.sl hc).app X) (by omega)
  have hfi := find_id (rightC_ids r4) hxc
  have hLa' : ∀ X, hget (G ++ X) (G1.length + 1) = .cells false (encC (lastC d i)) := fun X => by rw [hget_old hL]; exact hLa
  have hset : ∀ X, (G ++ X).set (G1.length + 1) (.cells false (encC (gt d i))) = G.set (G1.length + 1) (.cells false (encC (gt d i))) ++ X := fun X => List.set_append_left _ _ hL
  have hsl : (G.set (G1.length + 1) (.cells false (encC (gt d i)))).length = G.length := by simp
  have hsm : hget (G.set (G1.length + 1) (.cells false (encC (gt d i)))) (G1.length + 1) = .cells false (encC (gt d i)) := hget_set_eq hL
  have hsr : hget (G.set (G1.length + 1) (.cells false (encC (gt d i)))) G1.length = .map (cntMap (paidA l t s (d.take i))) := by rw [hget_set_ne (by omega)]; exact hM
  have hsE : Ext G1 (G.set (G1.length + 1) (.cells false (encC (gt d i)))) := Ext_set hE2 (by omega)
  generalize G.set (G1.length + 1) (.cells false (encC (gt d i))) = Gs at hset hsl hsm hsr hsE
  have hgn : ∀ X j, hget (Gs ++ X) (G.length + j) = X.getD j .dead := fun X j => by rw [← hsl]; exact hget_new
  have hst : ∀ (X : Heap) j b, (Gs ++ X).set (G.length + j) b = Gs ++ X.set j b := fun X j b => by rw [← hsl, List.set_append_right _ _ (by omega)]; simp
  have hgn0 : ∀ X, hget (Gs ++ X) G.length = X.getD 0 .dead := fun X => hgn X 0
  have hMs : ∀ X, hget (Gs ++ X) G1.length = .map (cntMap (paidA l t s (d.take i))) := fun X => by rw [hget_old (by omega)]; exact hsr
  have hsH : Ext H Gs := hE1.trans hsE
  have hDe : ∀ mp lim X Q, CallR E mp lim 15 [.slice pl l.length k1, .slice pt t.length k2, .slice ps s.length k3, .agg #[.int .i64 (gt d i).id, .int .i64 (gt d i).item, .int .i64 (gt d i).tm, .int .u8 (gt d i).kind, .int .i64 (gt d i).post, .int .i64 (gt d i).val]] (Gs ++ X) Q =
      Q (.tuple #[.agg #[.int .i64 (gt d i).id, .int .i64 (decideS l t s (gt d i)).1, .int .u8 (decideS l t s (gt d i)).2], .int .i64 0]) (Gs ++ X) := fun mp lim X Q => by
    have := Decide_ok (mp := mp) (lim := lim) (k1 := k1) (k2 := k2) (k3 := k3) (c := gt d i) (Q := Q) ((hsH.sl hl).app X) ((hsH.sl ht).app X) ((hsH.sl hs).app X) (by omega) (by omega) (by omega)
    rw [hx1, if_pos rfl] at this
    exact this
  have hoS : Sl Gs encO 3 po (goO l t s [] d) := hsE.sl hout
  have hldS := fun X j hj => (hoS.app X).loadCell (j := j) encO_len hio hj
  have hldC := fun X => (hoS.app X).loadCells encO_len hio
  rw [hat] at hldo hldS hldC
  have htk : d.take (i + 1) = d.take i ++ [gt d i] := by rw [List.take_succ_eq_append_getElem hid, gt_lt hid]
  have hpa : paidA l t s (d.take (i + 1)) = paidN l t s (paidA l t s (d.take i)) (gt d i) := by rw [htk, paidA, List.foldl_append]; rfl
  have hla1 : lastC d (i + 1) = gt d i := rfl
  change ∀ X j, j < 3 → AM.loadCell (G ++ X) ((elt po 3 i).add j) = (encO (outO l t s (paidA l t s (d.take i)) (gt d i)))[j]? at hldo
  change ∀ X j, j < 3 → AM.loadCell (Gs ++ X) ((elt po 3 i).add j) = (encO (outO l t s (paidA l t s (d.take i)) (gt d i)))[j]? at hldS
  change ∀ X, AM.loadCells (Gs ++ X) (elt po 3 i) 3 = some (encO (outO l t s (paidA l t s (d.take i)) (gt d i))) at hldC
  simp only [encC] at hset
  have hord2 : (¬ (gt d i).tm < (lastC d i).tm ∧ ¬ (gt d i).tm = (lastC d i).tm) ∨ (¬ (gt d i).tm < (lastC d i).tm ∧ (gt d i).tm = (lastC d i).tm ∧ ¬ (gt d i).id ≤ (lastC d i).id) := by
    rcases hord with q | ⟨q, q'⟩
    · exact .inl ⟨by omega, by omega⟩
    · exact .inr ⟨by omega, by omega, by omega⟩
  have hex : ∀ X, Ext G1 (Gs ++ X) := fun X => hsE.app
  have hlx : ∀ X : Heap, G1.length + 1 < (Gs ++ X).length := fun X => by rw [List.length_append]; omega
  have hms' : ∀ X, hget (Gs ++ X) (G1.length + 1) = .cells false (encC (gt d i)) := fun X => by rw [hget_old (by omega)]; exact hsm
  by_cases cA : (decideS l t s (gt d i)).2 ≠ 1 ∧ (gt d i).item ∈ paidA l t s (d.take i)
  · have hO : outO l t s (paidA l t s (d.take i)) (gt d i) = ((gt d i).id, 0, 7) := by unfold outO; rw [if_pos cA]
    unfold paidN at hpa
    rw [hO] at hldo hldS hldC hpa
    rw [if_neg (by simp)] at hpa
    obtain ⟨cA1, cA2⟩ := cA
    obtain ⟨j, hj⟩ := cnt_yes (i := 0) cA2
    rcases hord2 with ⟨e1, e2⟩ | ⟨e1, e2', e3⟩
    · simp only [n8, r8, g0, g1, g2, g3, g9, g11, g12, g13, hlt', hidxo, hldo, hldS, hldC, encC, encO, hw1, hfc, hfi, hLa', hset, hsl, hgn, hgn0, hMs, hDe, hlG, hlGp, hst, eqO, Bool.not_true, List.set_cons_succ, List.set_cons_zero, Option.getD_some, Option.isSome_some, cA1, hj, e1, e2, SB, Nat.reduceLT, callee, aOp, ne_eq, Nat.reduceEqDiff, aBin, aUn, if_true, if_false, reduceCtorEq, frame0, place, notTuple, Nat.reduceAdd, Nat.reduceLeDiff, resVal, dite_true, dite_false, Int.reduceEq, Int.reduceLT, Int.reduceLE]
      refine hN (i + 1) _ _ ⟨by omega, (by simp only [g0, upd_same, upd_ne, ne_eq, Nat.reduceEqDiff, not_false_eq_true, frame0, List.getD_cons_zero, List.getD_cons_succ]), (by simp only [g1, upd_same, upd_ne, ne_eq, Nat.reduceEqDiff, not_false_eq_true, frame0, List.getD_cons_zero, List.getD_cons_succ]), (by simp only [g2, upd_same, upd_ne, ne_eq, Nat.reduceEqDiff, not_false_eq_true, frame0, List.getD_cons_zero, List.getD_cons_succ]), (by simp only [g3, upd_same, upd_ne, ne_eq, Nat.reduceEqDiff, not_false_eq_true, frame0, List.getD_cons_zero, List.getD_cons_succ]), (by simp only [g9, upd_same, upd_ne, ne_eq, Nat.reduceEqDiff, not_false_eq_true, frame0, List.getD_cons_zero, List.getD_cons_succ]), (by simp only [g11, upd_same, upd_ne, ne_eq, Nat.reduceEqDiff, not_false_eq_true, frame0, List.getD_cons_zero, List.getD_cons_succ]), (by simp only [g12, upd_same, upd_ne, ne_eq, Nat.reduceEqDiff, not_false_eq_true, frame0, List.getD_cons_zero, List.getD_cons_succ]), (by simp only [upd_same, upd_ne, ne_eq, Nat.reduceEqDiff, not_false_eq_true, frame0, List.getD_cons_zero, List.getD_cons_succ]), hex _, hlx _, ?_, hms' _⟩ (by omega); rw [hMs, hpa]
    · simp only [n8, r8, g0, g1, g2, g3, g9, g11, g12, g13, hlt', hidxo, hldo, hldS, hldC, encC, encO, hw1, hfc, hfi, hLa', hset, hsl, hgn, hgn0, hMs, hDe, hlG, hlGp, hst, eqO, Bool.not_true, List.set_cons_succ, List.set_cons_zero, Option.getD_some, Option.isSome_some, cA1, hj, e1, eq_true e2', e3, SB, Nat.reduceLT, callee, aOp, ne_eq, Nat.reduceEqDiff, aBin, aUn, if_true, if_false, reduceCtorEq, frame0, place, notTuple, Nat.reduceAdd, Nat.reduceLeDiff, resVal, dite_true, dite_false, Int.reduceEq, Int.reduceLT, Int.reduceLE]
      refine hN (i + 1) _ _ ⟨by omega, (by simp only [g0, upd_same, upd_ne, ne_eq, Nat.reduceEqDiff, not_false_eq_true, frame0, List.getD_cons_zero, List.getD_cons_succ]), (by simp only [g1, upd_same, upd_ne, ne_eq, Nat.reduceEqDiff, not_false_eq_true, frame0, List.getD_cons_zero, List.getD_cons_succ]), (by simp only [g2, upd_same, upd_ne, ne_eq, Nat.reduceEqDiff, not_false_eq_true, frame0, List.getD_cons_zero, List.getD_cons_succ]), (by simp only [g3, upd_same, upd_ne, ne_eq, Nat.reduceEqDiff, not_false_eq_true, frame0, List.getD_cons_zero, List.getD_cons_succ]), (by simp only [g9, upd_same, upd_ne, ne_eq, Nat.reduceEqDiff, not_false_eq_true, frame0, List.getD_cons_zero, List.getD_cons_succ]), (by simp only [g11, upd_same, upd_ne, ne_eq, Nat.reduceEqDiff, not_false_eq_true, frame0, List.getD_cons_zero, List.getD_cons_succ]), (by simp only [g12, upd_same, upd_ne, ne_eq, Nat.reduceEqDiff, not_false_eq_true, frame0, List.getD_cons_zero, List.getD_cons_succ]), (by simp only [upd_same, upd_ne, ne_eq, Nat.reduceEqDiff, not_false_eq_true, frame0, List.getD_cons_zero, List.getD_cons_succ]), hex _, hlx _, ?_, hms' _⟩ (by omega); rw [hMs, hpa]
  have hO : outO l t s (paidA l t s (d.take i)) (gt d i) = ((gt d i).id, (decideS l t s (gt d i)).1, (decideS l t s (gt d i)).2) := by unfold outO; rw [if_neg cA]
  unfold paidN at hpa
  rw [hO] at hldo hldS hldC hpa
  by_cases c6 : (decideS l t s (gt d i)).2 = 6
  · rw [if_pos c6] at hpa
    have hm : (gt d i).item ∉ paidA l t s (d.take i) := fun h => cA ⟨by rw [c6]; decide, h⟩
    have hj := cnt_no (i := 0) hm
    have hlM : H.length ≤ G1.length := hlG1
    have w01 : IntKind.i64.wrap 1 = 1 := by decide
    have hfin : ∀ X : Heap, hget ((Gs ++ X).set G1.length (.map (cntMap (paidA l t s (d.take i) ++ [(gt d i).item])))) G1.length = .map (cntMap (paidA l t s (d.take (i + 1)))) := fun X => by rw [hget_set_eq (by rw [List.length_append]; omega), hpa]
    have hfin2 : ∀ X : Heap, hget ((Gs ++ X).set G1.length (.map (cntMap (paidA l t s (d.take i) ++ [(gt d i).item])))) (G1.length + 1) = .cells false (encC (gt d i)) := fun X => by rw [hget_set_ne (by omega)]; exact hms' X
    have hE3 : ∀ X : Heap, Ext G1 ((Gs ++ X).set G1.length (.map (cntMap (paidA l t s (d.take i) ++ [(gt d i).item])))) := fun X => Ext_set (hex X) (Nat.le_refl _)
    have hl3 : ∀ X : Heap, G1.length + 1 < ((Gs ++ X).set G1.length (.map (cntMap (paidA l t s (d.take i) ++ [(gt d i).item])))).length := fun X => by rw [List.length_set]; exact hlx X
    have z3 : ¬ (decideS l t s (gt d i)).1 < 0 := by omega
    by_cases z4 : 0 < (decideS l t s (gt d i)).1
    · rcases hord2 with ⟨e1, e2⟩ | ⟨e1, e2', e3⟩
      · simp only [n8, r8, g0, g1, g2, g3, g9, g11, g12, g13, hlt', hidxo, hldo, hldS, hldC, encC, encO, hw1, hfc, hfi, hLa', hset, hsl, hgn, hgn0, hMs, hDe, hlG, hlGp, hst, eqO, Bool.not_true, List.set_cons_succ, List.set_cons_zero, Option.getD_some, Option.isSome_some, c6, hj, e1, e2, z3, z4, hlM, cnt_add, Int.zero_add, w01, SB, Nat.reduceLT, callee, aOp, ne_eq, Nat.reduceEqDiff, aBin, aUn, if_true, if_false, reduceCtorEq, frame0, place, notTuple, Nat.reduceAdd, Nat.reduceLeDiff, resVal, dite_true, dite_false, Int.reduceEq, Int.reduceLT, Int.reduceLE]
        refine hN (i + 1) _ _ ⟨by omega, (by simp only [g0, upd_same, upd_ne, ne_eq, Nat.reduceEqDiff, not_false_eq_true, frame0, List.getD_cons_zero, List.getD_cons_succ]), (by simp only [g1, upd_same, upd_ne, ne_eq, Nat.reduceEqDiff, not_false_eq_true, frame0, List.getD_cons_zero, List.getD_cons_succ]), (by simp only [g2, upd_same, upd_ne, ne_eq, Nat.reduceEqDiff, not_false_eq_true, frame0, List.getD_cons_zero, List.getD_cons_succ]), (by simp only [g3, upd_same, upd_ne, ne_eq, Nat.reduceEqDiff, not_false_eq_true, frame0, List.getD_cons_zero, List.getD_cons_succ]), (by simp only [g9, upd_same, upd_ne, ne_eq, Nat.reduceEqDiff, not_false_eq_true, frame0, List.getD_cons_zero, List.getD_cons_succ]), (by simp only [g11, upd_same, upd_ne, ne_eq, Nat.reduceEqDiff, not_false_eq_true, frame0, List.getD_cons_zero, List.getD_cons_succ]), (by simp only [g12, upd_same, upd_ne, ne_eq, Nat.reduceEqDiff, not_false_eq_true, frame0, List.getD_cons_zero, List.getD_cons_succ]), (by simp only [upd_same, upd_ne, ne_eq, Nat.reduceEqDiff, not_false_eq_true, frame0, List.getD_cons_zero, List.getD_cons_succ]), hE3 _, hl3 _, hfin _, hfin2 _⟩ (by omega)
      · simp only [n8, r8, g0, g1, g2, g3, g9, g11, g12, g13, hlt', hidxo, hldo, hldS, hldC, encC, encO, hw1, hfc, hfi, hLa', hset, hsl, hgn, hgn0, hMs, hDe, hlG, hlGp, hst, eqO, Bool.not_true, List.set_cons_succ, List.set_cons_zero, Option.getD_some, Option.isSome_some, c6, hj, e1, eq_true e2', e3, z3, z4, hlM, cnt_add, Int.zero_add, w01, SB, Nat.reduceLT, callee, aOp, ne_eq, Nat.reduceEqDiff, aBin, aUn, if_true, if_false, reduceCtorEq, frame0, place, notTuple, Nat.reduceAdd, Nat.reduceLeDiff, resVal, dite_true, dite_false, Int.reduceEq, Int.reduceLT, Int.reduceLE]
        refine hN (i + 1) _ _ ⟨by omega, (by simp only [g0, upd_same, upd_ne, ne_eq, Nat.reduceEqDiff, not_false_eq_true, frame0, List.getD_cons_zero, List.getD_cons_succ]), (by simp only [g1, upd_same, upd_ne, ne_eq, Nat.reduceEqDiff, not_false_eq_true, frame0, List.getD_cons_zero, List.getD_cons_succ]), (by simp only [g2, upd_same, upd_ne, ne_eq, Nat.reduceEqDiff, not_false_eq_true, frame0, List.getD_cons_zero, List.getD_cons_succ]), (by simp only [g3, upd_same, upd_ne, ne_eq, Nat.reduceEqDiff, not_false_eq_true, frame0, List.getD_cons_zero, List.getD_cons_succ]), (by simp only [g9, upd_same, upd_ne, ne_eq, Nat.reduceEqDiff, not_false_eq_true, frame0, List.getD_cons_zero, List.getD_cons_succ]), (by simp only [g11, upd_same, upd_ne, ne_eq, Nat.reduceEqDiff, not_false_eq_true, frame0, List.getD_cons_zero, List.getD_cons_succ]), (by simp only [g12, upd_same, upd_ne, ne_eq, Nat.reduceEqDiff, not_false_eq_true, frame0, List.getD_cons_zero, List.getD_cons_succ]), (by simp only [upd_same, upd_ne, ne_eq, Nat.reduceEqDiff, not_false_eq_true, frame0, List.getD_cons_zero, List.getD_cons_succ]), hE3 _, hl3 _, hfin _, hfin2 _⟩ (by omega)
    · rcases hord2 with ⟨e1, e2⟩ | ⟨e1, e2', e3⟩
      · simp only [n8, r8, g0, g1, g2, g3, g9, g11, g12, g13, hlt', hidxo, hldo, hldS, hldC, encC, encO, hw1, hfc, hfi, hLa', hset, hsl, hgn, hgn0, hMs, hDe, hlG, hlGp, hst, eqO, Bool.not_true, List.set_cons_succ, List.set_cons_zero, Option.getD_some, Option.isSome_some, c6, hj, e1, e2, z3, z4, hlM, cnt_add, Int.zero_add, w01, SB, Nat.reduceLT, callee, aOp, ne_eq, Nat.reduceEqDiff, aBin, aUn, if_true, if_false, reduceCtorEq, frame0, place, notTuple, Nat.reduceAdd, Nat.reduceLeDiff, resVal, dite_true, dite_false, Int.reduceEq, Int.reduceLT, Int.reduceLE]
        refine hN (i + 1) _ _ ⟨by omega, (by simp only [g0, upd_same, upd_ne, ne_eq, Nat.reduceEqDiff, not_false_eq_true, frame0, List.getD_cons_zero, List.getD_cons_succ]), (by simp only [g1, upd_same, upd_ne, ne_eq, Nat.reduceEqDiff, not_false_eq_true, frame0, List.getD_cons_zero, List.getD_cons_succ]), (by simp only [g2, upd_same, upd_ne, ne_eq, Nat.reduceEqDiff, not_false_eq_true, frame0, List.getD_cons_zero, List.getD_cons_succ]), (by simp only [g3, upd_same, upd_ne, ne_eq, Nat.reduceEqDiff, not_false_eq_true, frame0, List.getD_cons_zero, List.getD_cons_succ]), (by simp only [g9, upd_same, upd_ne, ne_eq, Nat.reduceEqDiff, not_false_eq_true, frame0, List.getD_cons_zero, List.getD_cons_succ]), (by simp only [g11, upd_same, upd_ne, ne_eq, Nat.reduceEqDiff, not_false_eq_true, frame0, List.getD_cons_zero, List.getD_cons_succ]), (by simp only [g12, upd_same, upd_ne, ne_eq, Nat.reduceEqDiff, not_false_eq_true, frame0, List.getD_cons_zero, List.getD_cons_succ]), (by simp only [upd_same, upd_ne, ne_eq, Nat.reduceEqDiff, not_false_eq_true, frame0, List.getD_cons_zero, List.getD_cons_succ]), hE3 _, hl3 _, hfin _, hfin2 _⟩ (by omega)
      · simp only [n8, r8, g0, g1, g2, g3, g9, g11, g12, g13, hlt', hidxo, hldo, hldS, hldC, encC, encO, hw1, hfc, hfi, hLa', hset, hsl, hgn, hgn0, hMs, hDe, hlG, hlGp, hst, eqO, Bool.not_true, List.set_cons_succ, List.set_cons_zero, Option.getD_some, Option.isSome_some, c6, hj, e1, eq_true e2', e3, z3, z4, hlM, cnt_add, Int.zero_add, w01, SB, Nat.reduceLT, callee, aOp, ne_eq, Nat.reduceEqDiff, aBin, aUn, if_true, if_false, reduceCtorEq, frame0, place, notTuple, Nat.reduceAdd, Nat.reduceLeDiff, resVal, dite_true, dite_false, Int.reduceEq, Int.reduceLT, Int.reduceLE]
        refine hN (i + 1) _ _ ⟨by omega, (by simp only [g0, upd_same, upd_ne, ne_eq, Nat.reduceEqDiff, not_false_eq_true, frame0, List.getD_cons_zero, List.getD_cons_succ]), (by simp only [g1, upd_same, upd_ne, ne_eq, Nat.reduceEqDiff, not_false_eq_true, frame0, List.getD_cons_zero, List.getD_cons_succ]), (by simp only [g2, upd_same, upd_ne, ne_eq, Nat.reduceEqDiff, not_false_eq_true, frame0, List.getD_cons_zero, List.getD_cons_succ]), (by simp only [g3, upd_same, upd_ne, ne_eq, Nat.reduceEqDiff, not_false_eq_true, frame0, List.getD_cons_zero, List.getD_cons_succ]), (by simp only [g9, upd_same, upd_ne, ne_eq, Nat.reduceEqDiff, not_false_eq_true, frame0, List.getD_cons_zero, List.getD_cons_succ]), (by simp only [g11, upd_same, upd_ne, ne_eq, Nat.reduceEqDiff, not_false_eq_true, frame0, List.getD_cons_zero, List.getD_cons_succ]), (by simp only [g12, upd_same, upd_ne, ne_eq, Nat.reduceEqDiff, not_false_eq_true, frame0, List.getD_cons_zero, List.getD_cons_succ]), (by simp only [upd_same, upd_ne, ne_eq, Nat.reduceEqDiff, not_false_eq_true, frame0, List.getD_cons_zero, List.getD_cons_succ]), hE3 _, hl3 _, hfin _, hfin2 _⟩ (by omega)
  · rw [if_neg c6] at hpa
    have z0 : (decideS l t s (gt d i)).1 = 0 := by
      by_cases q : 0 < (decideS l t s (gt d i)).1
      · exact absurd (z2 q) c6
      · omega
    by_cases hm : (gt d i).item ∈ paidA l t s (d.take i)
    · have c1 : (decideS l t s (gt d i)).2 = 1 := Classical.byContradiction fun q => cA ⟨q, hm⟩
      obtain ⟨j, hj⟩ := cnt_yes (i := 0) hm
      rcases hord2 with ⟨e1, e2⟩ | ⟨e1, e2', e3⟩
      · simp only [n8, r8, g0, g1, g2, g3, g9, g11, g12, g13, hlt', hidxo, hldo, hldS, hldC, encC, encO, hw1, hfc, hfi, hLa', hset, hsl, hgn, hgn0, hMs, hDe, hlG, hlGp, hst, eqO, Bool.not_true, List.set_cons_succ, List.set_cons_zero, Option.getD_some, Option.isSome_some, c1, hj, e1, e2, z0, SB, Nat.reduceLT, callee, aOp, ne_eq, Nat.reduceEqDiff, aBin, aUn, if_true, if_false, reduceCtorEq, frame0, place, notTuple, Nat.reduceAdd, Nat.reduceLeDiff, resVal, dite_true, dite_false, Int.reduceEq, Int.reduceLT, Int.reduceLE]
        refine hN (i + 1) _ _ ⟨by omega, (by simp only [g0, upd_same, upd_ne, ne_eq, Nat.reduceEqDiff, not_false_eq_true, frame0, List.getD_cons_zero, List.getD_cons_succ]), (by simp only [g1, upd_same, upd_ne, ne_eq, Nat.reduceEqDiff, not_false_eq_true, frame0, List.getD_cons_zero, List.getD_cons_succ]), (by simp only [g2, upd_same, upd_ne, ne_eq, Nat.reduceEqDiff, not_false_eq_true, frame0, List.getD_cons_zero, List.getD_cons_succ]), (by simp only [g3, upd_same, upd_ne, ne_eq, Nat.reduceEqDiff, not_false_eq_true, frame0, List.getD_cons_zero, List.getD_cons_succ]), (by simp only [g9, upd_same, upd_ne, ne_eq, Nat.reduceEqDiff, not_false_eq_true, frame0, List.getD_cons_zero, List.getD_cons_succ]), (by simp only [g11, upd_same, upd_ne, ne_eq, Nat.reduceEqDiff, not_false_eq_true, frame0, List.getD_cons_zero, List.getD_cons_succ]), (by simp only [g12, upd_same, upd_ne, ne_eq, Nat.reduceEqDiff, not_false_eq_true, frame0, List.getD_cons_zero, List.getD_cons_succ]), (by simp only [upd_same, upd_ne, ne_eq, Nat.reduceEqDiff, not_false_eq_true, frame0, List.getD_cons_zero, List.getD_cons_succ]), hex _, hlx _, ?_, hms' _⟩ (by omega); rw [hMs, hpa]
      · simp only [n8, r8, g0, g1, g2, g3, g9, g11, g12, g13, hlt', hidxo, hldo, hldS, hldC, encC, encO, hw1, hfc, hfi, hLa', hset, hsl, hgn, hgn0, hMs, hDe, hlG, hlGp, hst, eqO, Bool.not_true, List.set_cons_succ, List.set_cons_zero, Option.getD_some, Option.isSome_some, c1, hj, e1, eq_true e2', e3, z0, SB, Nat.reduceLT, callee, aOp, ne_eq, Nat.reduceEqDiff, aBin, aUn, if_true, if_false, reduceCtorEq, frame0, place, notTuple, Nat.reduceAdd, Nat.reduceLeDiff, resVal, dite_true, dite_false, Int.reduceEq, Int.reduceLT, Int.reduceLE]
        refine hN (i + 1) _ _ ⟨by omega, (by simp only [g0, upd_same, upd_ne, ne_eq, Nat.reduceEqDiff, not_false_eq_true, frame0, List.getD_cons_zero, List.getD_cons_succ]), (by simp only [g1, upd_same, upd_ne, ne_eq, Nat.reduceEqDiff, not_false_eq_true, frame0, List.getD_cons_zero, List.getD_cons_succ]), (by simp only [g2, upd_same, upd_ne, ne_eq, Nat.reduceEqDiff, not_false_eq_true, frame0, List.getD_cons_zero, List.getD_cons_succ]), (by simp only [g3, upd_same, upd_ne, ne_eq, Nat.reduceEqDiff, not_false_eq_true, frame0, List.getD_cons_zero, List.getD_cons_succ]), (by simp only [g9, upd_same, upd_ne, ne_eq, Nat.reduceEqDiff, not_false_eq_true, frame0, List.getD_cons_zero, List.getD_cons_succ]), (by simp only [g11, upd_same, upd_ne, ne_eq, Nat.reduceEqDiff, not_false_eq_true, frame0, List.getD_cons_zero, List.getD_cons_succ]), (by simp only [g12, upd_same, upd_ne, ne_eq, Nat.reduceEqDiff, not_false_eq_true, frame0, List.getD_cons_zero, List.getD_cons_succ]), (by simp only [upd_same, upd_ne, ne_eq, Nat.reduceEqDiff, not_false_eq_true, frame0, List.getD_cons_zero, List.getD_cons_succ]), hex _, hlx _, ?_, hms' _⟩ (by omega); rw [hMs, hpa]
    · have hj := cnt_no (i := 0) hm
      rcases hord2 with ⟨e1, e2⟩ | ⟨e1, e2', e3⟩
      · simp only [n8, r8, g0, g1, g2, g3, g9, g11, g12, g13, hlt', hidxo, hldo, hldS, hldC, encC, encO, hw1, hfc, hfi, hLa', hset, hsl, hgn, hgn0, hMs, hDe, hlG, hlGp, hst, eqO, Bool.not_true, List.set_cons_succ, List.set_cons_zero, Option.getD_some, Option.isSome_some, c6, hj, e1, e2, z0, SB, Nat.reduceLT, callee, aOp, ne_eq, Nat.reduceEqDiff, aBin, aUn, if_true, if_false, reduceCtorEq, frame0, place, notTuple, Nat.reduceAdd, Nat.reduceLeDiff, resVal, dite_true, dite_false, Int.reduceEq, Int.reduceLT, Int.reduceLE]
        refine hN (i + 1) _ _ ⟨by omega, (by simp only [g0, upd_same, upd_ne, ne_eq, Nat.reduceEqDiff, not_false_eq_true, frame0, List.getD_cons_zero, List.getD_cons_succ]), (by simp only [g1, upd_same, upd_ne, ne_eq, Nat.reduceEqDiff, not_false_eq_true, frame0, List.getD_cons_zero, List.getD_cons_succ]), (by simp only [g2, upd_same, upd_ne, ne_eq, Nat.reduceEqDiff, not_false_eq_true, frame0, List.getD_cons_zero, List.getD_cons_succ]), (by simp only [g3, upd_same, upd_ne, ne_eq, Nat.reduceEqDiff, not_false_eq_true, frame0, List.getD_cons_zero, List.getD_cons_succ]), (by simp only [g9, upd_same, upd_ne, ne_eq, Nat.reduceEqDiff, not_false_eq_true, frame0, List.getD_cons_zero, List.getD_cons_succ]), (by simp only [g11, upd_same, upd_ne, ne_eq, Nat.reduceEqDiff, not_false_eq_true, frame0, List.getD_cons_zero, List.getD_cons_succ]), (by simp only [g12, upd_same, upd_ne, ne_eq, Nat.reduceEqDiff, not_false_eq_true, frame0, List.getD_cons_zero, List.getD_cons_succ]), (by simp only [upd_same, upd_ne, ne_eq, Nat.reduceEqDiff, not_false_eq_true, frame0, List.getD_cons_zero, List.getD_cons_succ]), hex _, hlx _, ?_, hms' _⟩ (by omega); rw [hMs, hpa]
      · simp only [n8, r8, g0, g1, g2, g3, g9, g11, g12, g13, hlt', hidxo, hldo, hldS, hldC, encC, encO, hw1, hfc, hfi, hLa', hset, hsl, hgn, hgn0, hMs, hDe, hlG, hlGp, hst, eqO, Bool.not_true, List.set_cons_succ, List.set_cons_zero, Option.getD_some, Option.isSome_some, c6, hj, e1, eq_true e2', e3, z0, SB, Nat.reduceLT, callee, aOp, ne_eq, Nat.reduceEqDiff, aBin, aUn, if_true, if_false, reduceCtorEq, frame0, place, notTuple, Nat.reduceAdd, Nat.reduceLeDiff, resVal, dite_true, dite_false, Int.reduceEq, Int.reduceLT, Int.reduceLE]
        refine hN (i + 1) _ _ ⟨by omega, (by simp only [g0, upd_same, upd_ne, ne_eq, Nat.reduceEqDiff, not_false_eq_true, frame0, List.getD_cons_zero, List.getD_cons_succ]), (by simp only [g1, upd_same, upd_ne, ne_eq, Nat.reduceEqDiff, not_false_eq_true, frame0, List.getD_cons_zero, List.getD_cons_succ]), (by simp only [g2, upd_same, upd_ne, ne_eq, Nat.reduceEqDiff, not_false_eq_true, frame0, List.getD_cons_zero, List.getD_cons_succ]), (by simp only [g3, upd_same, upd_ne, ne_eq, Nat.reduceEqDiff, not_false_eq_true, frame0, List.getD_cons_zero, List.getD_cons_succ]), (by simp only [g9, upd_same, upd_ne, ne_eq, Nat.reduceEqDiff, not_false_eq_true, frame0, List.getD_cons_zero, List.getD_cons_succ]), (by simp only [g11, upd_same, upd_ne, ne_eq, Nat.reduceEqDiff, not_false_eq_true, frame0, List.getD_cons_zero, List.getD_cons_succ]), (by simp only [g12, upd_same, upd_ne, ne_eq, Nat.reduceEqDiff, not_false_eq_true, frame0, List.getD_cons_zero, List.getD_cons_succ]), (by simp only [upd_same, upd_ne, ne_eq, Nat.reduceEqDiff, not_false_eq_true, frame0, List.getD_cons_zero, List.getD_cons_succ]), hex _, hlx _, ?_, hms' _⟩ (by omega); rw [hMs, hpa]
end Go.Proofs.Ytlmoijifgbkapaa.Fn
set_option linter.unusedVariables false
set_option linter.unusedSimpArgs false
namespace Go.AM
section
variable {G G' K : Heap} {R : Nat} {b : Blk}
/-- G', but for the block R, is G. -/
structure Mut (G G' : Heap) (R : Nat) : Prop where
  len : G'.length = G.length
  other : ∀ j, j ≠ R → hget G' j = hget G j
theorem Mut.ext {H : Heap} (h : Mut G G' R) (hE : Ext H G) (hR : H.length ≤ R) : Ext H G' := by
  obtain ⟨Y, rfl⟩ := hE
  refine ⟨G'.drop H.length, ?_⟩
  apply List.ext_getElem
  · have := h.len; simp at this ⊢; omega
  intro i h1 h2
  have hl := h.len
  simp at hl
  by_cases hi : i < H.length
  · rw [List.getElem_append_left hi]
    have := h.other i (by omega)
    unfold hget at this
    rw [List.getD_eq_getElem?_getD, List.getD_eq_getElem?_getD, List.getElem?_eq_getElem h1, List.getElem?_eq_getElem (by simp; omega)] at this
    simp only [Option.getD_some] at this
    rw [this, List.getElem_append_left hi]
  · rw [List.getElem_append_right (by omega), List.getElem_drop]
    congr 1
    omega
theorem Mut.cells (h : Mut G G' R) {j : Nat} {ro : Bool} {c : List Value} (hj : hget G j = .cells ro c) (hne : j ≠ R) : hget G' j = .cells ro c := by rw [h.other j hne]; exact hj
theorem Mut.alive (h : Mut G G' R) {j : Nat} {B : Blk} (hj : hget G j = B) (hne : j ≠ R) : hget G' j = B := by rw [h.other j hne]; exact hj
/-- A slice that lies apart. -/
theorem Mut.sl {α : Type} {enc : α → List Value} {e : Nat} {p : Option Addr} {l : List α} (h : Mut G G' R) (hs : Sl G enc e p l) (hp : ∀ a, p = some a → l ≠ [] → a.block ≠ R) : Sl G' enc e p l := by
  cases p with
  | none => exact hs
  | some a =>
    refine ⟨hs.1, fun hn => ?_⟩
    obtain ⟨ro, c, h2, h3⟩ := hs.2 hn
    exact ⟨ro, c, h.cells h2 (hp a rfl hn), h3⟩
/-- How places of a heap that is as long are looked up. -/
theorem len_rules (h : G'.length = G.length) : (G'.length = G.length) ∧ (∀ (X : Heap) (j : Nat), hget (G' ++ X) (G.length + j) = X.getD j .dead) ∧ (∀ X : Heap, hget (G' ++ X) G.length = X.getD 0 .dead) ∧
    (∀ (X : Heap) (j : Nat) b, (G' ++ X).set (G.length + j) b = G' ++ X.set j b) ∧ (∀ (X : Heap) b, (G' ++ X).set G.length b = G' ++ X.set 0 b) := by
  refine ⟨h, fun X j => by rw [← h]; exact hget_new, fun X => by rw [← h]; exact hget_new0, fun X j b => ?_, fun X b => ?_⟩
  · rw [← h, List.set_append_right _ _ (by omega)]; simp
  · rw [← h, List.set_append_right _ _ (by omega)]; simp
theorem mut_set (hR : R < G.length) (b : Blk) : ∃ G', (∀ X : Heap, (G ++ X).set R b = G' ++ X) ∧ hget G' R = b ∧ Mut G G' R :=
  ⟨G.set R b, fun X => List.set_append_left _ _ hR, hget_set_eq hR, by simp, fun j hj => hget_set_ne hj⟩
end

/-- A slice of one's own, that grows. -/
def Own {α : Type} (lim : Nat) (G : Heap) (enc : α → List Value) (e : Nat) (p : Option Addr) (cap : Nat) (l : List α) : Prop :=
  (l = [] ∧ p = none ∧ cap = 0) ∨ ∃ R, p = some ⟨R, 0, none⟩ ∧ cap = loose e ∧ hget G R = .cells false (l.flatMap enc) ∧ lim ≤ R
section
variable {α : Type} {lim e bytes cap : Nat} {G : Heap} {enc : α → List Value} {p : Option Addr} {l m : List α}
theorem Own.nil : Own lim G enc e none 0 [] := .inl ⟨rfl, rfl, rfl⟩
theorem Own.app (h : Own lim G enc e p cap l) (X : Heap) : Own lim (G ++ X) enc e p cap l := by
  rcases h with h | ⟨R, h1, h2, h3, h4⟩
  · exact .inl h
  · exact .inr ⟨R, h1, h2, by rw [hget_old (hget_alive h3)]; exact h3, h4⟩
theorem Own.mut {G' : Heap} {R : Nat} (h : Own lim G enc e p cap l) (hm : Mut G G' R) (hp : ∀ a, p = some a → a.block ≠ R) : Own lim G' enc e p cap l := by
  rcases h with h | ⟨R', h1, h2, h3, h4⟩
  · exact .inl h
  · exact .inr ⟨R', h1, h2, hm.cells h3 (hp _ h1), h4⟩
theorem Own.new {R : Nat} (hR : hget G R = .cells false (l.flatMap enc)) (hl : lim ≤ R) : Own lim G enc e (some ⟨R, 0, none⟩) (loose e) l := .inr ⟨R, rfl, rfl, hR, hl⟩
theorem Own.sl (h : Own lim G enc e p cap l) (he : ∀ x, (enc x).length = e) : Sl G enc e p l := by
  rcases h with ⟨h1, h2, _⟩ | ⟨R, h1, h2, h3, h4⟩
  · subst h1 h2; rfl
  · subst h1; exact Sl.lit he (by rw [h3]; rfl) (by rw [h3]; rfl)
theorem Own.le (h : Own lim G enc e p cap l) {lim' : Nat} (hl : lim' ≤ lim) : Own lim' G enc e p cap l := by
  rcases h with h | ⟨R, h1, h2, h3, h4⟩
  · exact .inl h
  · exact .inr ⟨R, h1, h2, h3, by omega⟩
theorem Own.block (h : Own lim G enc e p cap l) {a : Addr} (ha : p = some a) : lim ≤ a.block ∧ a.block < G.length := by
  rcases h with ⟨h1, h2, h3⟩ | ⟨R, h1, h2, h3, h4⟩
  · rw [h2] at ha; cases ha
  · rw [h1] at ha; cases ha; exact ⟨h4, hget_alive h3⟩
theorem Sl.cells (hs : Sl G enc e p m) (hm : m ≠ []) : ∃ a, p = some a ∧ AM.loadCells G a (m.length * e) = some (m.flatMap enc) := by
  cases p with
  | none => exact absurd hs hm
  | some a =>
    obtain ⟨k1, k2⟩ := hs
    obtain ⟨ro, cs, k3, k4, k5⟩ := k2 hm
    refine ⟨a, rfl, ?_⟩
    obtain ⟨ab, ao, as'⟩ := a
    simp only [loadCells_lit]
    simp only at k3 k4 k5
    simp only [k3]
    rw [if_pos k4, k5]
/-- More elements behind: where they lie then, and that all else is as it was. -/
theorem Own.push {lim' : Nat} (h : Own lim G enc e p cap l) (hll : lim' ≤ lim) (he : ∀ x, (enc x).length = e) (he0 : e ≠ 0) (m : List α) (hm : m ≠ []) (hb : (l.length + m.length) * bytes ≤ maxBytes) (hn : l.length + m.length < 2 ^ 61) :
    ∃ (G' : Heap) (R : Nat), (p = none → R = G.length) ∧ (∀ a, p = some a → R = a.block) ∧ Mut G G' R ∧ (∀ j, j ≠ R → hget G' j = hget G j) ∧ (∀ H0 : Heap, Ext H0 G → H0.length ≤ lim → Ext H0 G') ∧
      (∀ (X : Heap) (px : Option Addr) (k : Nat), Sl (G ++ X) enc e px m → aAppend lim' none e bytes false (.slice p l.length cap) (.slice px m.length k) (G ++ X) = some (.slice (some ⟨G.length + X.length, 0, none⟩) (l.length + m.length) (loose e), G' ++ (X ++ [.cells false ((l ++ m).flatMap enc)]))) := by
  have hm0 : ¬ m.length = 0 := by intro q; exact hm (List.length_eq_zero_iff.1 q)
  rcases h with ⟨h1, h2, h3⟩ | ⟨R, h1, h2, h3, h4⟩
  · subst h1 h2 h3
    refine ⟨G, G.length, fun _ => rfl, fun a h => (by cases h), ⟨rfl, fun j _ => rfl⟩, fun j _ => rfl, fun H0 h _ => h, fun X px k hx => ?_⟩
    obtain ⟨a, rfl, hl⟩ := hx.cells hm
    simp only [List.length_nil, Nat.zero_add] at hb hn
    simp only [aAppend, firstCells, lenOf, hl, hm0, if_false, Bool.false_eq_true, List.length_nil, Nat.zero_add]
    rw [if_neg (by omega)]
    simp [place]
  · subst h1 h2
    have hRl := hget_alive h3
    refine ⟨G.set R .dead, R, fun h => (by cases h), fun a h => (by cases h; rfl), ⟨by simp, fun j hj => hget_set_ne hj⟩, fun j hj => hget_set_ne hj, fun H0 h hl => Mut.ext (R := R) ⟨by simp, fun j hj => hget_set_ne hj⟩ h (by omega), fun X px k hx => ?_⟩
    obtain ⟨a, rfl, hl⟩ := hx.cells hm
    have hR' : hget (G ++ X) R = .cells false (l.flatMap enc) := by rw [hget_old hRl]; exact h3
    have hold : AM.loadCells (G ++ X) ⟨R, 0, none⟩ (l.length * e) = some (l.flatMap enc) := by
      simp only [loadCells_lit, hR', Nat.zero_add, flat_len he, Nat.le_refl, if_true, List.drop_zero]
      rw [List.take_of_length_le (by rw [flat_len he]; exact Nat.le_refl _)]
    simp only [aAppend, firstCells, lenOf, hl, hold, hR', hm0, if_false, Bool.false_eq_true, if_true]
    rw [if_neg (by unfold loose; omega)]
    simp [show lim' ≤ R by omega, place, List.set_append_left _ _ hRl, List.append_assoc]
/-- One element behind. -/
theorem Own.push1 {lim' : Nat} (h : Own lim G enc e p cap l) (hll : lim' ≤ lim) (he : ∀ x, (enc x).length = e) (he0 : e ≠ 0) (x : α) (hb : (l.length + 1) * bytes ≤ maxBytes) (hn : l.length + 1 < 2 ^ 61) :
    ∃ (G' : Heap) (R : Nat), (p = none → R = G.length) ∧ (∀ a, p = some a → R = a.block) ∧ Mut G G' R ∧ (∀ H0 : Heap, Ext H0 G → H0.length ≤ lim → Ext H0 G') ∧
      (∀ (X : Heap) (b k : Nat), hget (G ++ X) b = .cells false (enc x) → aAppend lim' none e bytes false (.slice p l.length cap) (.slice (some ⟨b, 0, none⟩) 1 k) (G ++ X) = some (.slice (some ⟨G.length + X.length, 0, none⟩) (l.length + 1) (loose e), G' ++ (X ++ [.cells false ((l ++ [x]).flatMap enc)]))) := by
  obtain ⟨G', R, h1, h2, h3, _, h4, h5⟩ := h.push hll he he0 [x] (by simp) (by simpa using hb) (by simpa using hn)
  refine ⟨G', R, h1, h2, h3, h4, fun X b k hx => ?_⟩
  exact h5 X (some ⟨b, 0, none⟩) k (Sl.lit he (by rw [hx]; rfl) (by rw [hx]; simp [cellsOf]))
/-- Nothing behind. -/
theorem append_none {lim e bytes n cap c : Nat} {dest : Option Nat} {p px : Option Addr} {H : Heap} (he0 : e ≠ 0) (hp : n = 0 ∨ ∃ a, p = some a) (hb : n * bytes ≤ maxBytes) (hn : n < 2 ^ 62) (hc : n ≤ cap) (hx : px = none ∨ ∃ a, px = some a) : aAppend lim dest e bytes false (.slice p n cap) (.slice px 0 c) H = some (.slice p n cap, H) := by
  rcases hx with rfl | ⟨a, rfl⟩
  · simp only [aAppend, firstCells, lenOf, Bool.false_eq_true, ne_eq, not_true_eq_false, or_self, if_false, Nat.add_zero]
    rw [if_neg (by omega)]; rfl
  · simp only [aAppend, firstCells, lenOf, Bool.false_eq_true, if_false, if_true, Nat.add_zero]
    rw [if_neg (by omega)]
theorem bound_nat {k m : Nat} {kk : IntKind} (h : k ≤ m) : bound (.int kk (k : Int)) m = some k := by
  simp only [bound]
  rw [if_pos ⟨by omega, by omega⟩]; simp
/-- The bounds of a slice expression, by their values. -/
def boundsV (len cap : Nat) (lo hi mx : Option Value) : Option (Nat × Nat × Nat) := bounds (fun o => match o with | .const v => v | _ => undef) len cap (lo.map .const) (hi.map .const) (mx.map .const)
theorem bounds_V {ρ : Operand → Value} {len cap : Nat} {lo hi mx : Option Operand} : bounds ρ len cap lo hi mx = boundsV len cap (lo.map ρ) (hi.map ρ) (mx.map ρ) := by
  unfold boundsV
  cases lo <;> cases hi <;> cases mx <;> rfl
theorem bound_int {n : Int} {m : Nat} {kk : IntKind} (h0 : 0 ≤ n) (h : n ≤ (m : Int)) : bound (.int kk n) m = some n.toNat := by
  simp only [bound]; rw [if_pos ⟨h0, h⟩]
section
variable {len : Nat} {k1 k2 k3 : IntKind} {l h x : Int}
theorem bv_000 : boundsV len cap none none none = some (0, len, cap) := rfl
theorem bv_010 (h0 : 0 ≤ h) (h1 : h ≤ (cap : Int)) : boundsV len cap none (some (.int k1 h)) none = some (0, h.toNat, cap) := by
  delta boundsV bounds; simp only [Option.map_some, Option.map_none, bound_int h0 h1]
theorem bv_100 (l0 : 0 ≤ l) (l1 : l ≤ (len : Int)) : boundsV len cap (some (.int k1 l)) none none = some (l.toNat, len, cap) := by
  delta boundsV bounds; simp only [Option.map_some, Option.map_none, bound_int l0 l1]
theorem bv_110 (l0 : 0 ≤ l) (l1 : l ≤ h) (h1 : h ≤ (cap : Int)) : boundsV len cap (some (.int k1 l)) (some (.int k2 h)) none = some (l.toNat, h.toNat, cap) := by
  delta boundsV bounds; simp only [Option.map_some, Option.map_none, bound_int (show 0 ≤ h by omega) h1, bound_int (m := h.toNat) l0 (by omega)]
theorem bv_011 (h0 : 0 ≤ h) (h1 : h ≤ x) (x1 : x ≤ (cap : Int)) : boundsV len cap none (some (.int k1 h)) (some (.int k2 x)) = some (0, h.toNat, x.toNat) := by
  delta boundsV bounds; simp only [Option.map_some, Option.map_none, bound_int (show 0 ≤ x by omega) x1, bound_int (m := x.toNat) h0 (by omega)]
theorem bv_111 (l0 : 0 ≤ l) (l1 : l ≤ h) (h1 : h ≤ x) (x1 : x ≤ (cap : Int)) : boundsV len cap (some (.int k3 l)) (some (.int k1 h)) (some (.int k2 x)) = some (l.toNat, h.toNat, x.toNat) := by
  delta boundsV bounds; simp only [Option.map_some, Option.map_none, bound_int (show 0 ≤ x by omega) x1, bound_int (m := x.toNat) (show 0 ≤ h by omega) (by omega), bound_int (m := h.toNat) l0 (by omega)]
end
theorem nat_nn {n : Nat} : (0 : Int) ≤ (n : Int) := by omega
/-- What is cut out of a slice, and put behind its beginning. -/
theorem append_cut {lim n o m R c : Nat} {dest : Option Nat} {H : Heap} {cs : List Value} (hR : hget H R = .cells false cs) (hl : lim ≤ R) (he0 : e ≠ 0) (hm : m ≠ 0) (h1 : n * e ≤ cs.length) (h2 : o + m * e ≤ cs.length) (hb : (n + m) * bytes ≤ maxBytes) (hn : n + m < 2 ^ 61) :
    aAppend lim dest e bytes false (.slice (some ⟨R, 0, none⟩) n (loose e)) (.slice (some ⟨R, o, none⟩) m c) H = some (.slice (some ⟨(place dest (.cells false (cs.take (n * e) ++ (cs.drop o).take (m * e))) (H.set R .dead)).1, 0, none⟩) (n + m) (loose e), (place dest (.cells false (cs.take (n * e) ++ (cs.drop o).take (m * e))) (H.set R .dead)).2) := by
  have hx : AM.loadCells H ⟨R, o, none⟩ (m * e) = some ((cs.drop o).take (m * e)) := by
    simp only [loadCells_lit, hR]; rw [if_pos h2]
  have hy : AM.loadCells H ⟨R, 0, none⟩ (n * e) = some (cs.take (n * e)) := by
    simp only [loadCells_lit, hR, Nat.zero_add, List.drop_zero]; rw [if_pos h1]
  simp only [aAppend, firstCells, lenOf, hx, hy, hR, hm, hl, if_false, if_true, Bool.false_eq_true]
  rw [if_neg (by unfold loose; omega)]
end
/-- The parts of a sequence. -/
def hdC : ACode → ACode
  | .seq a _ => a
  | c => c
def tlC : ACode → ACode
  | .seq _ b => b
  | _ => .skip
end Go.AM
namespace Go.Proofs.Ytlmoijifgbkapaa.Fn
open Go.AM Go.AM.Sym
set_option maxRecDepth 100000
set_option linter.unusedVariables false
set_option linter.unusedSimpArgs false
set_option maxHeartbeats 4000000

/-- A run that does not leave all as it was. -/
theorem run0 {g : FuncId} {af : AFunc} {lim : Nat} {as : List Value} {H : Heap} {Q : Value → Heap → Prop} (h : g ≠ 10) (ht : tr g = some af) (hp : pf g = false) (hr : Ret E af lim [.code af.body] (frame0 as) (H ++ []) Q) : CallR E false lim g as H Q := by
  rw [CallR_run (E := E) (g := g) (af := af) (by simp [E, orc, h]) ht hp rfl]
  exact Ret_pad hr
theorem okT_ref (x : Trm) : okT x = (decide (0 ≤ x.free ∧ x.free ≤ 100000) && decide (0 ≤ x.share ∧ x.share ≤ 10000) && decide (0 ≤ x.most ∧ x.most ≤ 10000) && decide (0 ≤ x.aft ∧ x.aft ≤ 1000000) && decide (0 ≤ x.lmt ∧ x.lmt ≤ 250000000000000) && decide (0 ≤ x.wthn ∧ x.wthn ≤ 3650)) := by
  simp only [okT, allIn, inB, Bool.and_true, Bool.and_assoc]
theorem refRightTerms_ok (mp : Bool) (lim : Nat) {p : Option Addr} {l : List Trm} {cap : Nat} {H : Heap} {Q : Value → Heap → Prop} (hs : Sl H encT 7 p l) (hn : l.length < 2 ^ 62) (hu : ∀ x ∈ l, 0 ≤ x.cls) :
    CallR E mp lim 41 [.slice p l.length cap] H Q = Q (.bool (rightT l)) H := by
  refine pc (by decide) e41 rfl rfl ?_
  rw [b41, c41]
  simp only [n41, r41, SB, Nat.reduceLT, callee, aOp, ne_eq, Nat.reduceEqDiff, aBin, aUn, if_true, if_false, reduceCtorEq, frame0, place, notTuple, Nat.reduceAdd, Nat.reduceLeDiff, resVal, dite_true, dite_false, Int.reduceEq, Int.reduceLT, Int.reduceLE]
  refine Ret_rounds (fun i => l.length - i) (fun i fr G => i ≤ l.length ∧ fr 0 = .slice p l.length cap ∧ fr 3 = .int .i64 (i : Int) ∧ Ext H G ∧
    allFrom (okTAt l) l.length 0 = allFrom (okTAt l) l.length i) 0 ⟨Nat.zero_le _, (by simp only [upd_same, upd_ne, ne_eq, Nat.reduceEqDiff, not_false_eq_true, frame0, List.getD_cons_zero, List.getD_cons_succ]), by rfl, Ext.refl.app, rfl⟩ ?_
  intro i fr G ⟨hi, h0, h3, hE, ha⟩ hN
  rw [Ret_code l41_1.eq_1]
  refine Ret_pad ?_
  by_cases hlt : i < l.length
  · have hL := hE.len
    have hg := hE.sl hs
    have hld := fun X => (hg.app X).loadCells encT_len hlt
    have hidx := fun c (k : IntKind) (H1 : Heap) => hg.idx (c := c) (k := k) (H1 := H1) hlt
    have hw1 : IntKind.i64.wrap ((i : Int) + 1) = ((i + 1 : Nat) : Int) := wrap_nat (by omega)
    have hw2 : 0 < i → IntKind.i64.wrap ((i : Int) - 1) = ((i - 1 : Nat) : Int) := fun h => wrap_pred h (by omega)
    have hlp := fun (_ : 0 < i) => (by omega : i - 1 < l.length)
    have hldp := fun (h : 0 < i) X => (hg.app X).loadCell0 encT_len (hlp h) (by decide)
    have hldq := fun (h : 0 < i) X j hj => (hg.app X).loadCell (j := j) encT_len (hlp h) hj
    have hidxp := fun (h : 0 < i) c (k : IntKind) (H1 : Heap) => hg.idx (c := c) (k := k) (H1 := H1) (hlp h)
    have hu' := hu _ (gt_mem hlt)
    simp only [n41, r41, h0, h3, hlt, hL, hidx, hld, encT, hw1, in_ok, SB, Nat.reduceLT, callee, aOp, ne_eq, Nat.reduceEqDiff, aBin, aUn, if_true, if_false, reduceCtorEq, frame0, place, notTuple, Nat.reduceAdd, Nat.reduceLeDiff, resVal, dite_true, dite_false, Int.reduceEq, Int.reduceLT, Int.reduceLE]
    repeat' ((first | refine wantK_dec (fun hw => ?_) (fun hw => ?_) | refine condK_dec (fun hw => ?_) (fun hw => ?_) | refine wantK_any (fun hw => ?_) (fun hw => ?_) | refine condK_any (fun hw => ?_) (fun hw => ?_)) <;> (try simp only [hw, n41, r41, h0, h3, hlt, hL, hidx, hld, hidxp, hldp, hldq, encT, hw1, hw2, in_ok, Nat.reducePow, SB, Nat.reduceLT, callee, aOp, ne_eq, Nat.reduceEqDiff, aBin, aUn, if_true, if_false, reduceCtorEq, frame0, place, notTuple, Nat.reduceAdd, Nat.reduceLeDiff, resVal, dite_true, dite_false, Int.reduceEq, Int.reduceLT, Int.reduceLE]))
    all_goals first | refine hN (i + 1) _ _ ⟨by omega, (by simp only [h0, upd_same, upd_ne, ne_eq, Nat.reduceEqDiff, not_false_eq_true, frame0, List.getD_cons_zero, List.getD_cons_succ]), (by simp only [upd_same, upd_ne, ne_eq, Nat.reduceEqDiff, not_false_eq_true, frame0, List.getD_cons_zero, List.getD_cons_succ]), hE.app, ?_⟩ (by omega) | skip
    all_goals clear hN
    all_goals simp only [rightT, ha, allFrom_step hlt, okTAt, okT_ref]
    all_goals simp [*]
    all_goals omega
  · obtain rfl : i = l.length := by omega
    simp only [n41, r41, h0, h3, hlt, SB, Nat.reduceLT, callee, aOp, ne_eq, Nat.reduceEqDiff, aBin, aUn, if_true, if_false, reduceCtorEq, frame0, place, notTuple, Nat.reduceAdd, Nat.reduceLeDiff, resVal, dite_true, dite_false, Int.reduceEq, Int.reduceLT, Int.reduceLE]
    simp [rightT, ha, allFrom_end]
    omega

theorem okN_ref (x : Snt) : okN x = (decide (1 ≤ x.item ∧ x.item ≤ 999999) && decide (1 ≤ x.frm ∧ x.frm ≤ 999999) && decide (1 ≤ x.to ∧ x.to ≤ 999999) && decide (0 ≤ x.acc ∧ x.acc ≤ 1051898399) && (decide (x.del = -1) || decide (x.acc ≤ x.del ∧ x.del ≤ 1051898399))) := by
  simp only [okN, allIn, inB, Bool.and_true, Bool.and_assoc]
/-- The pass over those ahead, from j on. -/
theorem take_mem {α : Type} [Inhabited α] {l : List α} {f : α → Int} {i j : Nat} (hi : i ≤ l.length) (hj : j < i) : f (gt l j) ∈ (l.take i).map f :=
  List.mem_map.2 ⟨gt l j, by rw [gt_lt (by omega)]; exact List.mem_iff_getElem.2 ⟨j, by rw [List.length_take]; omega, by simp⟩, rfl⟩
theorem take_not {α : Type} [Inhabited α] {l : List α} {f : α → Int} {i : Nat} {a : Int} (hi : i ≤ l.length) (h : ∀ j, j < i → f (gt l j) ≠ a) : a ∉ (l.take i).map f := by
  intro hm
  obtain ⟨x, hx, e⟩ := List.mem_map.1 hm
  obtain ⟨j, hj, rfl⟩ := List.mem_iff_getElem.1 hx
  rw [List.length_take] at hj
  refine h j (by omega) ?_
  rw [gt_lt (by omega)]
  simpa using e
theorem refRightSent_ok (mp : Bool) (lim : Nat) {p : Option Addr} {l : List Snt} {cap : Nat} {H : Heap} {Q : Value → Heap → Prop} (hs : Sl H encN 6 p l) (hn : l.length < 2 ^ 62) (hu : ∀ x ∈ l, 0 ≤ x.cls) :
    CallR E mp lim 43 [.slice p l.length cap] H Q = Q (.bool (rightN l)) H := by
  refine pc (by decide) e43 rfl rfl ?_
  rw [b43, c43]
  by_cases h200 : 2000 < (l.length : Int)
  · simp only [n43, r43, h200, SB, Nat.reduceLT, callee, aOp, ne_eq, Nat.reduceEqDiff, aBin, aUn, if_true, if_false, reduceCtorEq, frame0, place, notTuple, Nat.reduceAdd, Nat.reduceLeDiff, resVal, dite_true, dite_false, Int.reduceEq, Int.reduceLT, Int.reduceLE]
    simp [rightN]; omega
  simp only [n43, r43, h200, SB, Nat.reduceLT, callee, aOp, ne_eq, Nat.reduceEqDiff, aBin, aUn, if_true, if_false, reduceCtorEq, frame0, place, notTuple, Nat.reduceAdd, Nat.reduceLeDiff, resVal, dite_true, dite_false, Int.reduceEq, Int.reduceLT, Int.reduceLE]
  refine Ret_rounds (fun i => l.length - i) (fun i fr G => i ≤ l.length ∧ fr 0 = .slice p l.length cap ∧ fr 3 = .int .i64 (i : Int) ∧ Ext H G ∧
    allFrom (okNAt l) l.length 0 = allFrom (okNAt l) l.length i) 0 ⟨Nat.zero_le _, (by simp only [upd_same, upd_ne, ne_eq, Nat.reduceEqDiff, not_false_eq_true, frame0, List.getD_cons_zero, List.getD_cons_succ]), by rfl, Ext.refl.app, rfl⟩ ?_
  intro i fr G ⟨hi, h0, h3, hE, ha⟩ hN
  rw [Ret_code l43_2.eq_1]
  refine Ret_pad ?_
  by_cases hlt : i < l.length
  · have hL := hE.len
    have hg := hE.sl hs
    have hld := fun X => (hg.app X).loadCells encN_len hlt
    have hidx := fun c (k : IntKind) (H1 : Heap) => hg.idx (c := c) (k := k) (H1 := H1) hlt
    have hw1 : IntKind.i64.wrap ((i : Int) + 1) = ((i + 1 : Nat) : Int) := wrap_nat (by omega)
    have hu' := hu _ (gt_mem hlt)
    rw [allFrom_step hlt] at ha
    by_cases hc : (gt l i).cls = 0
    · simp only [n43, r43, h0, h3, hlt, hL, hidx, hld, encN, hw1, in_ok, hc, SB, Nat.reduceLT, callee, aOp, ne_eq, Nat.reduceEqDiff, aBin, aUn, if_true, if_false, reduceCtorEq, frame0, place, notTuple, Nat.reduceAdd, Nat.reduceLeDiff, resVal, dite_true, dite_false, Int.reduceEq, Int.reduceLT, Int.reduceLE]
      simp [rightN, ha, okNAt, hc]
    by_cases ho : okN (gt l i) = true
    case neg =>
      have hf : rightN l = false := by simp [rightN, ha, okNAt, ho]
      rw [hf]
      rw [okN_ref] at ho
      clear ha hf
      simp only [n43, r43, h0, h3, hlt, hL, hidx, hld, encN, hw1, in_ok, hc, SB, Nat.reduceLT, callee, aOp, ne_eq, Nat.reduceEqDiff, aBin, aUn, if_true, if_false, reduceCtorEq, frame0, place, notTuple, Nat.reduceAdd, Nat.reduceLeDiff, resVal, dite_true, dite_false, Int.reduceEq, Int.reduceLT, Int.reduceLE]
      repeat' ((first | refine wantK_dec (fun hw => ?_) (fun hw => ?_) | refine condK_dec (fun hw => ?_) (fun hw => ?_) | refine wantK_any (fun hw => ?_) (fun hw => ?_) | refine condK_any (fun hw => ?_) (fun hw => ?_)) <;> (try simp only [hw, n43, r43, h0, h3, hlt, hL, hidx, hld, encN, hw1, in_ok, hc, SB, Nat.reduceLT, callee, aOp, ne_eq, Nat.reduceEqDiff, aBin, aUn, if_true, if_false, reduceCtorEq, frame0, place, notTuple, Nat.reduceAdd, Nat.reduceLeDiff, resVal, dite_true, dite_false, Int.reduceEq, Int.reduceLT, Int.reduceLE]))
      all_goals exfalso
      all_goals simp only [Bool.and_eq_true, Bool.or_eq_true, decide_eq_true_eq] at ho
      all_goals omega
    have hoo := ho
    simp only [okN_ref, Bool.and_eq_true, Bool.or_eq_true, decide_eq_true_eq] at ho
    obtain ⟨⟨⟨⟨o1, o2⟩, o3⟩, o4⟩, o5⟩ := ho
    have o5' : (gt l i).del = -1 ∨ ¬ (gt l i).del = -1 ∧ (gt l i).acc ≤ (gt l i).del ∧ (gt l i).del ≤ 1051898399 := by omega
    rcases o5' with q | ⟨q, q1, q2⟩
    all_goals first
      | simp only [n43, r43, h0, h3, hlt, hL, hidx, hld, encN, hw1, in_ok, hc, o1, o2, o3, o4, q, q1, q2, SB, Nat.reduceLT, callee, aOp, ne_eq, Nat.reduceEqDiff, aBin, aUn, if_true, if_false, reduceCtorEq, frame0, place, notTuple, Nat.reduceAdd, Nat.reduceLeDiff, resVal, dite_true, dite_false, Int.reduceEq, Int.reduceLT, Int.reduceLE]
      | simp only [n43, r43, h0, h3, hlt, hL, hidx, hld, encN, hw1, in_ok, hc, o1, o2, o3, o4, q, SB, Nat.reduceLT, callee, aOp, ne_eq, Nat.reduceEqDiff, aBin, aUn, if_true, if_false, reduceCtorEq, frame0, place, notTuple, Nat.reduceAdd, Nat.reduceLeDiff, resVal, dite_true, dite_false, Int.reduceEq, Int.reduceLT, Int.reduceLE]
    all_goals
      refine Ret_rounds (fun j => i - j) (fun j fr2 G2 => j ≤ i ∧ fr2 0 = .slice p l.length cap ∧ fr2 3 = .int .i64 (i : Int) ∧ fr2 4 = .pointer (some ⟨G.length, 0, none⟩) ∧ fr2 5 = .int .i64 (j : Int) ∧ Ext (G ++ [.cells false (encN (gt l i))]) G2 ∧
        ∀ j', j' < j → (gt l j').item ≠ (gt l i).item) 0 ⟨Nat.zero_le _, (by simp only [h0, upd_same, upd_ne, ne_eq, Nat.reduceEqDiff, not_false_eq_true, frame0, List.getD_cons_zero, List.getD_cons_succ]), (by simp only [h3, upd_same, upd_ne, ne_eq, Nat.reduceEqDiff, not_false_eq_true, frame0, List.getD_cons_zero, List.getD_cons_succ]), (by simp only [upd_same, upd_ne, ne_eq, Nat.reduceEqDiff, not_false_eq_true, frame0, List.getD_cons_zero, List.getD_cons_succ]), by rfl, (by first | exact Ext.refl | (simp only [encN, q]; exact Ext.refl)), fun j' h => absurd h (Nat.not_lt_zero _)⟩ ?_
      intro j fr2 G2 ⟨hj, k0, k3, k4, k5, hE2, hne⟩ hN2
      rw [Ret_code l43_1.eq_1]
      refine Ret_pad ?_
      have hE3 : Ext H G2 := hE.app.trans hE2
      have hg2 := hE3.sl hs
      have hx4 : ∀ X, hget (G2 ++ X) G.length = .cells false (encN (gt l i)) := fun X => (hE2.app (X := X)).cells hget_new0
      by_cases hjl : j < i
      · have hjl' : j < l.length := by omega
        have hld2 := fun X => (hg2.app X).loadCell0 encN_len hjl' (by decide)
        have hldq2 := fun X jj hj => (hg2.app X).loadCell (j := jj) encN_len hjl' hj
        have hidx2 := fun c (k : IntKind) (H1 : Heap) => hg2.idx (c := c) (k := k) (H1 := H1) hjl'
        have hwj : IntKind.i64.wrap ((j : Int) + 1) = ((j + 1 : Nat) : Int) := wrap_nat (by omega)
        by_cases he : (gt l j).item = (gt l i).item
        · simp only [n43, r43, k0, k3, k4, k5, hjl, hidx2, hld2, hldq2, encN, hx4, he, SB, Nat.reduceLT, callee, aOp, ne_eq, Nat.reduceEqDiff, aBin, aUn, if_true, if_false, reduceCtorEq, frame0, place, notTuple, Nat.reduceAdd, Nat.reduceLeDiff, resVal, dite_true, dite_false, Int.reduceEq, Int.reduceLT, Int.reduceLE]
          have hm := take_mem (f := (·.item)) (Nat.le_of_lt hlt) hjl
          rw [he] at hm
          simp only [rightN, ha, okNAt]
          simp_all
        · simp only [n43, r43, k0, k3, k4, k5, hjl, hidx2, hld2, hldq2, encN, hx4, he, hwj, SB, Nat.reduceLT, callee, aOp, ne_eq, Nat.reduceEqDiff, aBin, aUn, if_true, if_false, reduceCtorEq, frame0, place, notTuple, Nat.reduceAdd, Nat.reduceLeDiff, resVal, dite_true, dite_false, Int.reduceEq, Int.reduceLT, Int.reduceLE]
          refine hN2 (j + 1) _ _ ⟨by omega, (by simp only [k0, upd_same, upd_ne, ne_eq, Nat.reduceEqDiff, not_false_eq_true, frame0, List.getD_cons_zero, List.getD_cons_succ]), (by simp only [k3, upd_same, upd_ne, ne_eq, Nat.reduceEqDiff, not_false_eq_true, frame0, List.getD_cons_zero, List.getD_cons_succ]), (by simp only [k4, upd_same, upd_ne, ne_eq, Nat.reduceEqDiff, not_false_eq_true, frame0, List.getD_cons_zero, List.getD_cons_succ]), (by simp only [upd_same, upd_ne, ne_eq, Nat.reduceEqDiff, not_false_eq_true, frame0, List.getD_cons_zero, List.getD_cons_succ]), hE2.app, fun j' hj' => ?_⟩ (by omega)
          by_cases e : j' = j
          · subst e; exact he
          · exact hne j' (by omega)
      · obtain rfl : j = i := by omega
        simp only [n43, r43, k0, k3, k4, k5, hjl, hw1, SB, Nat.reduceLT, callee, aOp, ne_eq, Nat.reduceEqDiff, aBin, aUn, if_true, if_false, reduceCtorEq, frame0, place, notTuple, Nat.reduceAdd, Nat.reduceLeDiff, resVal, dite_true, dite_false, Int.reduceEq, Int.reduceLT, Int.reduceLE]
        refine hN (j + 1) _ _ ⟨by omega, (by simp only [k0, upd_same, upd_ne, ne_eq, Nat.reduceEqDiff, not_false_eq_true, frame0, List.getD_cons_zero, List.getD_cons_succ]), (by simp only [upd_same, upd_ne, ne_eq, Nat.reduceEqDiff, not_false_eq_true, frame0, List.getD_cons_zero, List.getD_cons_succ]), hE3.app, ?_⟩ (by omega)
        have hm := take_not (f := (·.item)) (Nat.le_of_lt hlt) hne
        rw [ha]
        simp only [okNAt]
        simp_all
        omega
  · obtain rfl : i = l.length := by omega
    simp only [n43, r43, h0, h3, hlt, SB, Nat.reduceLT, callee, aOp, ne_eq, Nat.reduceEqDiff, aBin, aUn, if_true, if_false, reduceCtorEq, frame0, place, notTuple, Nat.reduceAdd, Nat.reduceLeDiff, resVal, dite_true, dite_false, Int.reduceEq, Int.reduceLT, Int.reduceLE]
    simp [rightN, ha, allFrom_end]
    omega

theorem okC_ref (x : Clm) : okC x = (decide (1 ≤ x.id ∧ x.id ≤ 999999) && decide (1 ≤ x.item ∧ x.item ≤ 999999) && decide (0 ≤ x.tm ∧ x.tm ≤ 1051898399) && decide (0 ≤ x.post ∧ x.post ≤ 250000000000000) && decide (0 ≤ x.val ∧ x.val ≤ 250000000000000)) := by
  simp only [okC, allIn, inB, Bool.and_true, Bool.and_assoc]
theorem refRightClaims_ok (mp : Bool) (lim : Nat) {p : Option Addr} {l : List Clm} {cap : Nat} {H : Heap} {Q : Value → Heap → Prop} (hs : Sl H encC 6 p l) (hn : l.length < 2 ^ 62) (hu : ∀ x ∈ l, 0 ≤ x.kind ∧ x.kind < 256) :
    CallR E mp lim 44 [.slice p l.length cap] H Q = Q (.bool (rightC l)) H := by
  refine pc (by decide) e44 rfl rfl ?_
  rw [b44, c44]
  by_cases h200 : 500 < (l.length : Int)
  · simp only [n44, r44, h200, SB, Nat.reduceLT, callee, aOp, ne_eq, Nat.reduceEqDiff, aBin, aUn, if_true, if_false, reduceCtorEq, frame0, place, notTuple, Nat.reduceAdd, Nat.reduceLeDiff, resVal, dite_true, dite_false, Int.reduceEq, Int.reduceLT, Int.reduceLE]
    simp [rightC]; omega
  simp only [n44, r44, h200, SB, Nat.reduceLT, callee, aOp, ne_eq, Nat.reduceEqDiff, aBin, aUn, if_true, if_false, reduceCtorEq, frame0, place, notTuple, Nat.reduceAdd, Nat.reduceLeDiff, resVal, dite_true, dite_false, Int.reduceEq, Int.reduceLT, Int.reduceLE]
  refine Ret_rounds (fun i => l.length - i) (fun i fr G => i ≤ l.length ∧ fr 0 = .slice p l.length cap ∧ fr 3 = .int .i64 (i : Int) ∧ Ext H G ∧
    allFrom (okCAt l) l.length 0 = allFrom (okCAt l) l.length i) 0 ⟨Nat.zero_le _, (by simp only [upd_same, upd_ne, ne_eq, Nat.reduceEqDiff, not_false_eq_true, frame0, List.getD_cons_zero, List.getD_cons_succ]), by rfl, Ext.refl.app, rfl⟩ ?_
  intro i fr G ⟨hi, h0, h3, hE, ha⟩ hN
  rw [Ret_code l44_2.eq_1]
  refine Ret_pad ?_
  by_cases hlt : i < l.length
  · have hL := hE.len
    have hg := hE.sl hs
    have hld := fun X => (hg.app X).loadCells encC_len hlt
    have hidx := fun c (k : IntKind) (H1 : Heap) => hg.idx (c := c) (k := k) (H1 := H1) hlt
    have hw1 : IntKind.i64.wrap ((i : Int) + 1) = ((i + 1 : Nat) : Int) := wrap_nat (by omega)
    have hu' := hu _ (gt_mem hlt)
    have hwk : IntKind.i64.wrap (gt l i).kind = (gt l i).kind := wrap_id (by omega) (by omega)
    rw [allFrom_step hlt] at ha
    by_cases ho : okC (gt l i) = true ∧ 1 ≤ (gt l i).kind ∧ (gt l i).kind ≤ 2
    case neg =>
      have hf : rightC l = false := by
        simp only [rightC, ha, okCAt]
        have : ¬ okC (gt l i) = true ∨ ¬ ((gt l i).kind = 1 ∨ (gt l i).kind = 2) := by
          by_cases q : okC (gt l i) = true
          · right; intro hk; exact ho ⟨q, by omega, by omega⟩
          · exact .inl q
        rcases this with q | q <;> simp [q]
      rw [hf]
      rw [okC_ref] at ho
      clear ha hf
      simp only [n44, r44, h0, h3, hlt, hL, hidx, hld, encC, hw1, in_ok, hwk, SB, Nat.reduceLT, callee, aOp, ne_eq, Nat.reduceEqDiff, aBin, aUn, if_true, if_false, reduceCtorEq, frame0, place, notTuple, Nat.reduceAdd, Nat.reduceLeDiff, resVal, dite_true, dite_false, Int.reduceEq, Int.reduceLT, Int.reduceLE]
      repeat' ((first | refine wantK_dec (fun hw => ?_) (fun hw => ?_) | refine condK_dec (fun hw => ?_) (fun hw => ?_) | refine wantK_any (fun hw => ?_) (fun hw => ?_) | refine condK_any (fun hw => ?_) (fun hw => ?_)) <;> (try simp only [hw, n44, r44, h0, h3, hlt, hL, hidx, hld, encC, hw1, in_ok, hwk, SB, Nat.reduceLT, callee, aOp, ne_eq, Nat.reduceEqDiff, aBin, aUn, if_true, if_false, reduceCtorEq, frame0, place, notTuple, Nat.reduceAdd, Nat.reduceLeDiff, resVal, dite_true, dite_false, Int.reduceEq, Int.reduceLT, Int.reduceLE]))
      all_goals exfalso
      all_goals simp only [Bool.and_eq_true, decide_eq_true_eq] at ho
      all_goals omega
    have hoo := ho
    simp only [okC_ref, Bool.and_eq_true, decide_eq_true_eq] at ho
    obtain ⟨⟨⟨⟨⟨o1, o2⟩, o3⟩, o4⟩, o5⟩, o6⟩ := ho
    simp only [n44, r44, h0, h3, hlt, hL, hidx, hld, encC, hw1, in_ok, hwk, o1, o2, o3, o4, o5, o6, SB, Nat.reduceLT, callee, aOp, ne_eq, Nat.reduceEqDiff, aBin, aUn, if_true, if_false, reduceCtorEq, frame0, place, notTuple, Nat.reduceAdd, Nat.reduceLeDiff, resVal, dite_true, dite_false, Int.reduceEq, Int.reduceLT, Int.reduceLE]
    all_goals
      refine Ret_rounds (fun j => i - j) (fun j fr2 G2 => j ≤ i ∧ fr2 0 = .slice p l.length cap ∧ fr2 3 = .int .i64 (i : Int) ∧ fr2 4 = .pointer (some ⟨G.length, 0, none⟩) ∧ fr2 5 = .int .i64 (j : Int) ∧ Ext (G ++ [.cells false (encC (gt l i))]) G2 ∧
        ∀ j', j' < j → (gt l j').id ≠ (gt l i).id) 0 ⟨Nat.zero_le _, (by simp only [h0, upd_same, upd_ne, ne_eq, Nat.reduceEqDiff, not_false_eq_true, frame0, List.getD_cons_zero, List.getD_cons_succ]), (by simp only [h3, upd_same, upd_ne, ne_eq, Nat.reduceEqDiff, not_false_eq_true, frame0, List.getD_cons_zero, List.getD_cons_succ]), (by simp only [upd_same, upd_ne, ne_eq, Nat.reduceEqDiff, not_false_eq_true, frame0, List.getD_cons_zero, List.getD_cons_succ]), by rfl, (by first | exact Ext.refl | (simp only [encN, q]; exact Ext.refl)), fun j' h => absurd h (Nat.not_lt_zero _)⟩ ?_
      intro j fr2 G2 ⟨hj, k0, k3, k4, k5, hE2, hne⟩ hN2
      rw [Ret_code l44_1.eq_1]
      refine Ret_pad ?_
      have hE3 : Ext H G2 := hE.app.trans hE2
      have hg2 := hE3.sl hs
      have hx4 : ∀ X, hget (G2 ++ X) G.length = .cells false (encC (gt l i)) := fun X => (hE2.app (X := X)).cells hget_new0
      by_cases hjl : j < i
      · have hjl' : j < l.length := by omega
        have hld2 := fun X => (hg2.app X).loadCell0 encC_len hjl' (by decide)
        have hldq2 := fun X jj hj => (hg2.app X).loadCell (j := jj) encC_len hjl' hj
        have hidx2 := fun c (k : IntKind) (H1 : Heap) => hg2.idx (c := c) (k := k) (H1 := H1) hjl'
        have hwj : IntKind.i64.wrap ((j : Int) + 1) = ((j + 1 : Nat) : Int) := wrap_nat (by omega)
        by_cases he : (gt l j).id = (gt l i).id
        · simp only [n44, r44, k0, k3, k4, k5, hjl, hidx2, hld2, hldq2, encC, hx4, he, SB, Nat.reduceLT, callee, aOp, ne_eq, Nat.reduceEqDiff, aBin, aUn, if_true, if_false, reduceCtorEq, frame0, place, notTuple, Nat.reduceAdd, Nat.reduceLeDiff, resVal, dite_true, dite_false, Int.reduceEq, Int.reduceLT, Int.reduceLE]
          have hm := take_mem (f := (·.id)) (Nat.le_of_lt hlt) hjl
          rw [he] at hm
          simp only [rightC, ha, okCAt]
          simp_all
        · simp only [n44, r44, k0, k3, k4, k5, hjl, hidx2, hld2, hldq2, encC, hx4, he, hwj, SB, Nat.reduceLT, callee, aOp, ne_eq, Nat.reduceEqDiff, aBin, aUn, if_true, if_false, reduceCtorEq, frame0, place, notTuple, Nat.reduceAdd, Nat.reduceLeDiff, resVal, dite_true, dite_false, Int.reduceEq, Int.reduceLT, Int.reduceLE]
          refine hN2 (j + 1) _ _ ⟨by omega, (by simp only [k0, upd_same, upd_ne, ne_eq, Nat.reduceEqDiff, not_false_eq_true, frame0, List.getD_cons_zero, List.getD_cons_succ]), (by simp only [k3, upd_same, upd_ne, ne_eq, Nat.reduceEqDiff, not_false_eq_true, frame0, List.getD_cons_zero, List.getD_cons_succ]), (by simp only [k4, upd_same, upd_ne, ne_eq, Nat.reduceEqDiff, not_false_eq_true, frame0, List.getD_cons_zero, List.getD_cons_succ]), (by simp only [upd_same, upd_ne, ne_eq, Nat.reduceEqDiff, not_false_eq_true, frame0, List.getD_cons_zero, List.getD_cons_succ]), hE2.app, fun j' hj' => ?_⟩ (by omega)
          by_cases e : j' = j
          · subst e; exact he
          · exact hne j' (by omega)
      · obtain rfl : j = i := by omega
        simp only [n44, r44, k0, k3, k4, k5, hjl, hw1, SB, Nat.reduceLT, callee, aOp, ne_eq, Nat.reduceEqDiff, aBin, aUn, if_true, if_false, reduceCtorEq, frame0, place, notTuple, Nat.reduceAdd, Nat.reduceLeDiff, resVal, dite_true, dite_false, Int.reduceEq, Int.reduceLT, Int.reduceLE]
        refine hN (j + 1) _ _ ⟨by omega, (by simp only [k0, upd_same, upd_ne, ne_eq, Nat.reduceEqDiff, not_false_eq_true, frame0, List.getD_cons_zero, List.getD_cons_succ]), (by simp only [upd_same, upd_ne, ne_eq, Nat.reduceEqDiff, not_false_eq_true, frame0, List.getD_cons_zero, List.getD_cons_succ]), hE3.app, ?_⟩ (by omega)
        have hm := take_not (f := (·.id)) (Nat.le_of_lt hlt) hne
        rw [ha]
        simp only [okCAt]
        simp_all
        omega
  · obtain rfl : i = l.length := by omega
    simp only [n44, r44, h0, h3, hlt, SB, Nat.reduceLT, callee, aOp, ne_eq, Nat.reduceEqDiff, aBin, aUn, if_true, if_false, reduceCtorEq, frame0, place, notTuple, Nat.reduceAdd, Nat.reduceLeDiff, resVal, dite_true, dite_false, Int.reduceEq, Int.reduceLT, Int.reduceLE]
    simp [rightC, ha, allFrom_end]
    omega

/-! ### The lists of the reference, its first error -/
theorem otherTerms_ok {lim : Nat} {p : Option Addr} {l : List Trm} {cap : Nat} {H : Heap} (hs : Sl H encT 7 p l) (hn : l.length ≤ 2001) (hlim : lim ≤ H.length) :
    ∃ p' k' Y, Sl (H ++ Y) encT 7 p' l ∧ ∀ Q, CallR E false lim 42 [.slice p l.length cap] H Q = Q (.slice p' l.length k') (H ++ Y) := by
  have key : CallR E false lim 42 [.slice p l.length cap] H (fun v G => Ext H G ∧ ∃ p' k', v = .slice p' l.length k' ∧ Sl G encT 7 p' l) := by
    refine run0 (by decide) e42 rfl ?_
    rw [b42, c42]
    simp only [n42, r42, SB, Nat.reduceLT, callee, aOp, ne_eq, Nat.reduceEqDiff, aBin, aUn, if_true, if_false, reduceCtorEq, frame0, place, notTuple, Nat.reduceAdd, Nat.reduceLeDiff, resVal, dite_true, dite_false, Int.reduceEq, Int.reduceLT, Int.reduceLE]
    refine Ret_rounds (fun i => l.length - i) (fun i fr G => i ≤ l.length ∧ fr 0 = .slice p l.length cap ∧ fr 4 = .int .i64 (i : Int) ∧ Ext H G ∧ ∃ p' k', fr 3 = .slice p' i k' ∧ Own H.length G encT 7 p' k' (l.take i)) 0 ⟨Nat.zero_le _, (by simp only [upd_same, upd_ne, ne_eq, Nat.reduceEqDiff, not_false_eq_true, frame0, List.getD_cons_zero, List.getD_cons_succ]), by rfl, Ext.refl.app, none, 0, (by simp only [upd_same, upd_ne, ne_eq, Nat.reduceEqDiff, not_false_eq_true, frame0, List.getD_cons_zero, List.getD_cons_succ]), Own.nil⟩ ?_
    intro i fr G ⟨hi, g0, g4, hE, p', k', g3, hO⟩ hN
    rw [Ret_code l42_1.eq_1]
    refine Ret_pad ?_
    by_cases hlt : i < l.length
    · have hL := hE.len
      have hg := hE.sl hs
      have hld := fun X => (hg.app X).loadCells encT_len hlt
      have hidx := fun c (k : IntKind) (H1 : Heap) => hg.idx (c := c) (k := k) (H1 := H1) hlt
      have hw1 : IntKind.i64.wrap ((i : Int) + 1) = ((i + 1 : Nat) : Int) := wrap_nat (by omega)
      have hti : (l.take i).length = i := by rw [List.length_take]; omega
      obtain ⟨G', R, q1, q2, hM, hE', happ⟩ := hO.push1 (bytes := 56) hlim encT_len (by decide) (gt l i) (by unfold maxBytes; omega) (by omega)
      rw [hti] at happ
      simp only [encT] at happ
      have hlim' : lim ≤ G.length := by omega
      have hr := len_rules hM.len
      simp only [n42, r42, g0, g3, g4, hlt, hidx, hld, encT, hw1, happ, hlim', hr, SB, Nat.reduceLT, callee, aOp, ne_eq, Nat.reduceEqDiff, aBin, aUn, if_true, if_false, reduceCtorEq, frame0, place, notTuple, Nat.reduceAdd, Nat.reduceLeDiff, resVal, dite_true, dite_false, Int.reduceEq, Int.reduceLT, Int.reduceLE]
      refine hN (i + 1) _ _ ⟨by omega, (by simp only [g0, upd_same, upd_ne, ne_eq, Nat.reduceEqDiff, not_false_eq_true, frame0, List.getD_cons_zero, List.getD_cons_succ]), (by simp only [upd_same, upd_ne, ne_eq, Nat.reduceEqDiff, not_false_eq_true, frame0, List.getD_cons_zero, List.getD_cons_succ]), (hE' H hE (Nat.le_refl _)).app, some ⟨G.length + 2, 0, none⟩, loose 7, (by simp only [upd_same, upd_ne, ne_eq, Nat.reduceEqDiff, not_false_eq_true, frame0, List.getD_cons_zero, List.getD_cons_succ]), Own.new ?_ (by omega)⟩ (by omega)
      rw [hr.2.1]
      simp only [List.getD_cons_succ, List.getD_cons_zero, List.take_succ_eq_append_getElem hlt, gt_lt hlt]
    · obtain rfl : i = l.length := by omega
      rw [List.take_length] at hO
      simp only [n42, r42, g0, g3, g4, hlt, SB, Nat.reduceLT, callee, aOp, ne_eq, Nat.reduceEqDiff, aBin, aUn, if_true, if_false, reduceCtorEq, frame0, place, notTuple, Nat.reduceAdd, Nat.reduceLeDiff, resVal, dite_true, dite_false, Int.reduceEq, Int.reduceLT, Int.reduceLE]
      exact ⟨hE.app, _, _, rfl, (hO.app _).sl encT_len⟩
  obtain ⟨k, v, H', hx, ⟨Y, rfl⟩, p', k', rfl, hs'⟩ := key
  exact ⟨p', k', Y, hs', fun Q => CallR.det hx⟩
theorem others_ok {lim : Nat} {p : Option Addr} {l : List Clm} {cap : Nat} {H : Heap} (hs : Sl H encC 6 p l) (hn : l.length ≤ 2001) (hlim : lim ≤ H.length) :
    ∃ p' k' Y, Sl (H ++ Y) encC 6 p' l ∧ ∀ Q, CallR E false lim 45 [.slice p l.length cap] H Q = Q (.slice p' l.length k') (H ++ Y) := by
  have key : CallR E false lim 45 [.slice p l.length cap] H (fun v G => Ext H G ∧ ∃ p' k', v = .slice p' l.length k' ∧ Sl G encC 6 p' l) := by
    refine run0 (by decide) e45 rfl ?_
    rw [b45, c45]
    simp only [n45, r45, SB, Nat.reduceLT, callee, aOp, ne_eq, Nat.reduceEqDiff, aBin, aUn, if_true, if_false, reduceCtorEq, frame0, place, notTuple, Nat.reduceAdd, Nat.reduceLeDiff, resVal, dite_true, dite_false, Int.reduceEq, Int.reduceLT, Int.reduceLE]
    refine Ret_rounds (fun i => l.length - i) (fun i fr G => i ≤ l.length ∧ fr 0 = .slice p l.length cap ∧ fr 4 = .int .i64 (i : Int) ∧ Ext H G ∧ ∃ p' k', fr 3 = .slice p' i k' ∧ Own H.length G encC 6 p' k' (l.take i)) 0 ⟨Nat.zero_le _, (by simp only [upd_same, upd_ne, ne_eq, Nat.reduceEqDiff, not_false_eq_true, frame0, List.getD_cons_zero, List.getD_cons_succ]), by rfl, Ext.refl.app, none, 0, (by simp only [upd_same, upd_ne, ne_eq, Nat.reduceEqDiff, not_false_eq_true, frame0, List.getD_cons_zero, List.getD_cons_succ]), Own.nil⟩ ?_
    intro i fr G ⟨hi, g0, g4, hE, p', k', g3, hO⟩ hN
    rw [Ret_code l45_1.eq_1]
    refine Ret_pad ?_
    by_cases hlt : i < l.length
    · have hL := hE.len
      have hg := hE.sl hs
      have hld := fun X => (hg.app X).loadCells encC_len hlt
      have hidx := fun c (k : IntKind) (H1 : Heap) => hg.idx (c := c) (k := k) (H1 := H1) hlt
      have hw1 : IntKind.i64.wrap ((i : Int) + 1) = ((i + 1 : Nat) : Int) := wrap_nat (by omega)
      have hti : (l.take i).length = i := by rw [List.length_take]; omega
      obtain ⟨G', R, q1, q2, hM, hE', happ⟩ := hO.push1 (bytes := 48) hlim encC_len (by decide) (gt l i) (by unfold maxBytes; omega) (by omega)
      rw [hti] at happ
      simp only [encC] at happ
      have hlim' : lim ≤ G.length := by omega
      have hr := len_rules hM.len
      simp only [n45, r45, g0, g3, g4, hlt, hidx, hld, encC, hw1, happ, hlim', hr, SB, Nat.reduceLT, callee, aOp, ne_eq, Nat.reduceEqDiff, aBin, aUn, if_true, if_false, reduceCtorEq, frame0, place, notTuple, Nat.reduceAdd, Nat.reduceLeDiff, resVal, dite_true, dite_false, Int.reduceEq, Int.reduceLT, Int.reduceLE]
      refine hN (i + 1) _ _ ⟨by omega, (by simp only [g0, upd_same, upd_ne, ne_eq, Nat.reduceEqDiff, not_false_eq_true, frame0, List.getD_cons_zero, List.getD_cons_succ]), (by simp only [upd_same, upd_ne, ne_eq, Nat.reduceEqDiff, not_false_eq_true, frame0, List.getD_cons_zero, List.getD_cons_succ]), (hE' H hE (Nat.le_refl _)).app, some ⟨G.length + 2, 0, none⟩, loose 6, (by simp only [upd_same, upd_ne, ne_eq, Nat.reduceEqDiff, not_false_eq_true, frame0, List.getD_cons_zero, List.getD_cons_succ]), Own.new ?_ (by omega)⟩ (by omega)
      rw [hr.2.1]
      simp only [List.getD_cons_succ, List.getD_cons_zero, List.take_succ_eq_append_getElem hlt, gt_lt hlt]
    · obtain rfl : i = l.length := by omega
      rw [List.take_length] at hO
      simp only [n45, r45, g0, g3, g4, hlt, SB, Nat.reduceLT, callee, aOp, ne_eq, Nat.reduceEqDiff, aBin, aUn, if_true, if_false, reduceCtorEq, frame0, place, notTuple, Nat.reduceAdd, Nat.reduceLeDiff, resVal, dite_true, dite_false, Int.reduceEq, Int.reduceLT, Int.reduceLE]
      exact ⟨hE.app, _, _, rfl, (hO.app _).sl encC_len⟩
  obtain ⟨k, v, H', hx, ⟨Y, rfl⟩, p', k', rfl, hs'⟩ := key
  exact ⟨p', k', Y, hs', fun Q => CallR.det hx⟩

theorem refCheck_ok {mp : Bool} {lim : Nat} {pl pt ps pc' : Option Addr} {l : List Std} {t : List Trm} {s : List Snt} {c : List Clm} {k1 k2 k3 k4 : Nat} {H : Heap} {Q : Value → Heap → Prop}
    (hl : Sl H encS 4 pl l) (ht : Sl H encT 7 pt t) (hs : Sl H encN 6 ps s) (hc : Sl H encC 6 pc' c) (nl : l.length < 2 ^ 62) (nt : t.length < 2 ^ 62) (ns : s.length < 2 ^ 62) (nc : c.length < 2 ^ 62)
    (ul : ∀ x ∈ l, 0 ≤ x.cls) (ut : ∀ x ∈ t, 0 ≤ x.cls) (us : ∀ x ∈ s, 0 ≤ x.cls) (uc : ∀ x ∈ c, 0 ≤ x.kind ∧ x.kind < 256) :
    CallR E mp lim 63 [.slice pl l.length k1, .slice pt t.length k2, .slice ps s.length k3, .slice pc' c.length k4] H Q = Q (.int .i64 (checkS l t s c)) H := by
  refine pc (by decide) e63 rfl rfl ?_
  rw [b63, c63]
  have h1 := fun mp lim X Q => refRight_ok mp lim (cap := k1) (Q := Q) (hl.app X) nl ul
  have h2 := fun mp lim X Q => refRightTerms_ok mp lim (cap := k2) (Q := Q) (ht.app X) nt ut
  have h3 := fun mp lim X Q => refRightSent_ok mp lim (cap := k3) (Q := Q) (hs.app X) ns us
  have h4 := fun mp lim X Q => refRightClaims_ok mp lim (cap := k4) (Q := Q) (hc.app X) nc uc
  simp only [n63, r63, h1, h2, h3, h4, SB, Nat.reduceLT, callee, aOp, ne_eq, Nat.reduceEqDiff, aBin, aUn, if_true, if_false, reduceCtorEq, frame0, place, notTuple, Nat.reduceAdd, Nat.reduceLeDiff, resVal, dite_true, dite_false, Int.reduceEq, Int.reduceLT, Int.reduceLE]
  repeat' ((first | refine wantK_dec (fun hw => ?_) (fun hw => ?_) | refine condK_dec (fun hw => ?_) (fun hw => ?_) | refine wantK_any (fun hw => ?_) (fun hw => ?_) | refine condK_any (fun hw => ?_) (fun hw => ?_)) <;> (try simp only [hw, n63, r63, h1, h2, h3, h4, SB, Nat.reduceLT, callee, aOp, ne_eq, Nat.reduceEqDiff, aBin, aUn, if_true, if_false, reduceCtorEq, frame0, place, notTuple, Nat.reduceAdd, Nat.reduceLeDiff, resVal, dite_true, dite_false, Int.reduceEq, Int.reduceLT, Int.reduceLE]))
  all_goals simp [checkS, *]
theorem refShare_ok {mp : Bool} {lim : Nat} {n p : Int} {H : Heap} {Q : Value → Heap → Prop} (h1 : 0 ≤ n ∧ n ≤ 1000000000000000) (h2 : 0 ≤ p ∧ p ≤ 10000) :
    CallR E mp lim 77 [.int .i64 n, .int .i64 p] H Q = Q (.int .i64 (shareS n p)) H := by
  refine pc (by decide) e77 rfl rfl ?_
  rw [b77, c77]
  have hq : n.tdiv 10000 = n / 10000 := Int.tdiv_eq_ediv_of_nonneg h1.1
  have hr : n.tmod 10000 = n % 10000 := Int.tmod_eq_emod_of_nonneg h1.1
  have hm1 : 0 ≤ n / 10000 * p := Int.mul_nonneg (by omega) h2.1
  have hm2 : n / 10000 * p ≤ 100000000000 * 10000 := Int.mul_le_mul (by omega) h2.2 h2.1 (by decide)
  have hm3 : 0 ≤ n % 10000 * p := Int.mul_nonneg (by omega) h2.1
  have hm4 : n % 10000 * p ≤ 10000 * 10000 := Int.mul_le_mul (by omega) h2.2 h2.1 (by decide)
  have w1 : IntKind.i64.wrap (n / 10000) = n / 10000 := wrap_id (by omega) (by omega)
  have w2 : IntKind.i64.wrap (n / 10000 * p) = n / 10000 * p := wrap_id (by omega) (by omega)
  have w3 : IntKind.i64.wrap (n % 10000 * p) = n % 10000 * p := wrap_id (by omega) (by omega)
  have hq3 : (n % 10000 * p).tdiv 10000 = n % 10000 * p / 10000 := Int.tdiv_eq_ediv_of_nonneg hm3
  have w4 : IntKind.i64.wrap (n % 10000 * p / 10000) = n % 10000 * p / 10000 := wrap_id (by omega) (by omega)
  have w5 : IntKind.i64.wrap (n / 10000 * p + n % 10000 * p / 10000) = shareS n p := wrap_id (by omega) (by omega)
  simp only [n77, r77, hq, hr, w1, w2, w3, hq3, w4, w5, SB, Nat.reduceLT, callee, aOp, ne_eq, Nat.reduceEqDiff, aBin, aUn, if_true, if_false, reduceCtorEq, frame0, place, notTuple, Nat.reduceAdd, Nat.reduceLeDiff, resVal, dite_true, dite_false, Int.reduceEq, Int.reduceLT, Int.reduceLE]
end Go.Proofs.Ytlmoijifgbkapaa.Fn
namespace Go.Proofs.Ytlmoijifgbkapaa.Fn
open Go.AM Go.AM.Sym
set_option maxRecDepth 100000
set_option linter.unusedVariables false
set_option linter.unusedSimpArgs false
set_option maxHeartbeats 4000000

theorem last_find {α : Type} {P : α → Bool} : ∀ (t : List α) (a : α), t.Pairwise (fun x y => P x = true → ¬ P y = true) → t.foldl (fun a y => if P y = true then y else a) a = (t.find? P).getD a
  | [], _, _ => rfl
  | y :: t, a, h => by
    rw [List.pairwise_cons] at h
    rw [List.foldl_cons, List.find?_cons]
    by_cases hk : P y = true
    · simp only [hk, if_true, Option.getD_some]
      have key : ∀ (t : List α) (a : α), (∀ z ∈ t, ¬ P z = true) → t.foldl (fun a y => if P y = true then y else a) a = a := by
        intro t
        induction t with
        | nil => intro a _; rfl
        | cons z t ih => intro a hz; rw [List.foldl_cons, if_neg (hz z (by simp))]; exact ih a fun w hw => hz w (by simp [hw])
      exact key t y fun z hz => h.1 z hz hk
    · simp only [hk, Bool.false_eq_true, if_false]
      exact last_find t a h.2
def zN : Snt := ⟨0, 0, 0, 0, 0, 0⟩
def zT : Trm := ⟨0, 0, 0, 0, 0, 0, 0⟩
def lstN (k : Int) (s : List Snt) : Snt := s.foldl (fun a x => if decide (x.item = k) = true then x else a) zN
def lstT (k : Int) (t : List Trm) : Trm := t.foldl (fun a x => if decide (x.cls = k) = true then x else a) zT
theorem lstN_step {s : List Snt} {k : Int} {i : Nat} (h : i < s.length) : lstN k (s.take (i + 1)) = if (gt s i).item = k then gt s i else lstN k (s.take i) := by
  unfold lstN
  rw [List.take_succ_eq_append_getElem h, List.foldl_append, gt_lt h]
  simp
theorem lstT_step {s : List Trm} {k : Int} {i : Nat} (h : i < s.length) : lstT k (s.take (i + 1)) = if (gt s i).cls = k then gt s i else lstT k (s.take i) := by
  unfold lstT
  rw [List.take_succ_eq_append_getElem h, List.foldl_append, gt_lt h]
  simp
theorem rightN_items {s : List Snt} (h : rightN s = true) : s.Pairwise (fun a b => a.item ≠ b.item) := by
  unfold rightN at h
  simp only [Bool.and_eq_true] at h
  rw [List.pairwise_iff_getElem]
  intro i j hi hj hij he
  have h2 := allFrom_iff.1 h.2 j (Nat.zero_le _) hj
  simp only [okNAt, Bool.and_eq_true, gt_lt hj, Bool.not_eq_true', List.contains_eq_mem, decide_eq_false_iff_not] at h2
  refine h2.1.2 ?_
  rw [← he]
  exact List.mem_map.2 ⟨s[i], List.mem_iff_getElem.2 ⟨i, by rw [List.length_take]; omega, by simp⟩, rfl⟩
theorem lstN_find {s : List Snt} (h : rightN s = true) (k : Int) : lstN k s = (s.find? (fun x => decide (x.item = k))).getD zN := by
  refine last_find s zN ((rightN_items h).imp fun {a b} hab => ?_)
  simp only [decide_eq_true_eq]
  intro q1 q2
  exact hab (q1.trans q2.symm)
theorem lstT_find {s : List Trm} (h : rightT s = true) (k : Int) : lstT k s = (s.find? (fun x => decide (x.cls = k))).getD zT := by
  refine last_find s zT ((rightT_pair h).imp fun {a b} hab => ?_)
  simp only [decide_eq_true_eq]
  omega
theorem prom_sound {l : List Std} {c f t a : Int} (hr : right l = true) (ha : ¬ a < 0) : ((promiseS l c f t a).2 = 0 ↔ (prom l c f t a).2.2 = true) ∧ ((promiseS l c f t a).2 = 0 → (promiseS l c f t a).1 = (prom l c f t a).1) := by
  rw [promise_prom hr ha]
  have h0 : (prom l c f t a).2.2 = true → (prom l c f t a).2.1 = true := by
    unfold prom
    split
    · simp
    · split <;> simp
  by_cases h1 : (prom l c f t a).2.1 = false
  · rw [if_pos h1]
    refine ⟨⟨fun q => absurd q (by decide), fun q => ?_⟩, fun q => absurd q (by decide)⟩
    rw [h0 q] at h1; cases h1
  · rw [if_neg h1]
    by_cases h2 : (prom l c f t a).2.2 = false
    · rw [if_pos h2]
      refine ⟨⟨fun q => absurd q (by decide), fun q => ?_⟩, fun q => absurd q (by decide)⟩
      rw [q] at h2; cases h2
    · rw [if_neg h2]
      exact ⟨⟨fun _ => by simpa using h2, fun _ => rfl⟩, fun _ => rfl⟩

theorem verdict_ok {mp : Bool} {lim : Nat} {pl pt ps : Option Addr} {l : List Std} {t : List Trm} {s : List Snt} {c : Clm} {k1 k2 k3 : Nat} {H : Heap} {Q : Value → Heap → Prop}
    (hl : Sl H encS 4 pl l) (ht : Sl H encT 7 pt t) (hs : Sl H encN 6 ps s) (nl : l.length < 2 ^ 62) (nt : t.length < 2 ^ 62) (ns : s.length < 2 ^ 62) (ul : ∀ x ∈ l, 0 ≤ x.cls)
    (r1 : right l = true) (r2 : rightT t = true) (r3 : rightN s = true) (o1 : okC c = true) (o2 : c.kind = 1 ∨ c.kind = 2) :
    CallR E mp lim 64 [.slice pl l.length k1, .slice pt t.length k2, .slice ps s.length k3, .agg #[.int .i64 c.id, .int .i64 c.item, .int .i64 c.tm, .int .u8 c.kind, .int .i64 c.post, .int .i64 c.val]] H Q = Q (.agg #[.int .i64 c.id, .int .i64 (decideS l t s c).1, .int .u8 (decideS l t s c).2]) H := by
  refine pc (by decide) e64 rfl rfl ?_
  rw [b64, c64]
  have hfo := file_ok c r1 r2 r3
  simp only [n64, r64, SB, Nat.reduceLT, callee, aOp, ne_eq, Nat.reduceEqDiff, aBin, aUn, if_true, if_false, reduceCtorEq, frame0, place, notTuple, Nat.reduceAdd, Nat.reduceLeDiff, resVal, dite_true, dite_false, Int.reduceEq, Int.reduceLT, Int.reduceLE]
  refine Ret_rounds (fun i => s.length - i) (fun i fr G => i ≤ s.length ∧ fr 0 = .slice pl l.length k1 ∧ fr 1 = .slice pt t.length k2 ∧ fr 2 = .slice ps s.length k3 ∧ fr 7 = .pointer (some ⟨H.length, 0, none⟩) ∧ fr 8 = .pointer (some ⟨H.length + 1, 0, none⟩) ∧ fr 9 = .pointer (some ⟨H.length + 2, 0, none⟩) ∧
    fr 10 = .int .i64 (i : Int) ∧ G = H ++ [.cells false [.int .i64 c.id, .int .i64 c.item, .int .i64 c.tm, .int .u8 c.kind, .int .i64 c.post, .int .i64 c.val], .cells false [.int .i64 0, .int .i64 0, .int .u8 0], .cells false (encN (lstN c.item (s.take i)))]) 0 ⟨Nat.zero_le _, (by simp only [upd_same, upd_ne, ne_eq, Nat.reduceEqDiff, not_false_eq_true, frame0, List.getD_cons_zero, List.getD_cons_succ]), (by simp only [upd_same, upd_ne, ne_eq, Nat.reduceEqDiff, not_false_eq_true, frame0, List.getD_cons_zero, List.getD_cons_succ]), (by simp only [upd_same, upd_ne, ne_eq, Nat.reduceEqDiff, not_false_eq_true, frame0, List.getD_cons_zero, List.getD_cons_succ]), (by simp only [upd_same, upd_ne, ne_eq, Nat.reduceEqDiff, not_false_eq_true, frame0, List.getD_cons_zero, List.getD_cons_succ]), (by simp only [upd_same, upd_ne, ne_eq, Nat.reduceEqDiff, not_false_eq_true, frame0, List.getD_cons_zero, List.getD_cons_succ]), (by simp only [upd_same, upd_ne, ne_eq, Nat.reduceEqDiff, not_false_eq_true, frame0, List.getD_cons_zero, List.getD_cons_succ]), by rfl, rfl⟩ ?_
  intro i fr G ⟨hi, g0, g1, g2, g7, g8, g9, g10, hG⟩ hN
  subst hG
  rw [Ret_code l64_3.eq_1]
  by_cases hlt : i < s.length
  · have hld := fun X => (hs.app X).loadCells encN_len hlt
    have hldj := fun X j hj => (hs.app X).loadCell (j := j) encN_len hlt hj
    have hld0 := fun X => (hs.app X).loadCell0 encN_len hlt (by decide)
    have hidx := fun c (k : IntKind) (H1 : Heap) => hs.idx (c := c) (k := k) (H1 := H1) hlt
    have hw1 : IntKind.i64.wrap ((i : Int) + 1) = ((i + 1 : Nat) : Int) := wrap_nat (by omega)
    have hst := lstN_step (k := c.item) hlt
    by_cases he : (gt s i).item = c.item
    · rw [if_pos he] at hst
      simp only [n64, r64, g0, g1, g2, g7, g8, g9, g10, hlt, hld, hldj, hld0, hidx, hw1, encN, he, SB, Nat.reduceLT, callee, aOp, ne_eq, Nat.reduceEqDiff, aBin, aUn, if_true, if_false, reduceCtorEq, frame0, place, notTuple, Nat.reduceAdd, Nat.reduceLeDiff, resVal, dite_true, dite_false, Int.reduceEq, Int.reduceLT, Int.reduceLE]
      refine hN (i + 1) _ _ ⟨by omega, (by simp only [g0, upd_same, upd_ne, ne_eq, Nat.reduceEqDiff, not_false_eq_true, frame0, List.getD_cons_zero, List.getD_cons_succ]), (by simp only [g1, upd_same, upd_ne, ne_eq, Nat.reduceEqDiff, not_false_eq_true, frame0, List.getD_cons_zero, List.getD_cons_succ]), (by simp only [g2, upd_same, upd_ne, ne_eq, Nat.reduceEqDiff, not_false_eq_true, frame0, List.getD_cons_zero, List.getD_cons_succ]), (by simp only [g7, upd_same, upd_ne, ne_eq, Nat.reduceEqDiff, not_false_eq_true, frame0, List.getD_cons_zero, List.getD_cons_succ]), (by simp only [g8, upd_same, upd_ne, ne_eq, Nat.reduceEqDiff, not_false_eq_true, frame0, List.getD_cons_zero, List.getD_cons_succ]), (by simp only [g9, upd_same, upd_ne, ne_eq, Nat.reduceEqDiff, not_false_eq_true, frame0, List.getD_cons_zero, List.getD_cons_succ]), (by simp only [upd_same, upd_ne, ne_eq, Nat.reduceEqDiff, not_false_eq_true, frame0, List.getD_cons_zero, List.getD_cons_succ]), ?_⟩ (by omega)
      simp only [hst, encN, he]
    · rw [if_neg he] at hst
      simp only [n64, r64, g0, g1, g2, g7, g8, g9, g10, hlt, hld, hldj, hld0, hidx, hw1, encN, he, SB, Nat.reduceLT, callee, aOp, ne_eq, Nat.reduceEqDiff, aBin, aUn, if_true, if_false, reduceCtorEq, frame0, place, notTuple, Nat.reduceAdd, Nat.reduceLeDiff, resVal, dite_true, dite_false, Int.reduceEq, Int.reduceLT, Int.reduceLE]
      refine hN (i + 1) _ _ ⟨by omega, (by simp only [g0, upd_same, upd_ne, ne_eq, Nat.reduceEqDiff, not_false_eq_true, frame0, List.getD_cons_zero, List.getD_cons_succ]), (by simp only [g1, upd_same, upd_ne, ne_eq, Nat.reduceEqDiff, not_false_eq_true, frame0, List.getD_cons_zero, List.getD_cons_succ]), (by simp only [g2, upd_same, upd_ne, ne_eq, Nat.reduceEqDiff, not_false_eq_true, frame0, List.getD_cons_zero, List.getD_cons_succ]), (by simp only [g7, upd_same, upd_ne, ne_eq, Nat.reduceEqDiff, not_false_eq_true, frame0, List.getD_cons_zero, List.getD_cons_succ]), (by simp only [g8, upd_same, upd_ne, ne_eq, Nat.reduceEqDiff, not_false_eq_true, frame0, List.getD_cons_zero, List.getD_cons_succ]), (by simp only [g9, upd_same, upd_ne, ne_eq, Nat.reduceEqDiff, not_false_eq_true, frame0, List.getD_cons_zero, List.getD_cons_succ]), (by simp only [upd_same, upd_ne, ne_eq, Nat.reduceEqDiff, not_false_eq_true, frame0, List.getD_cons_zero, List.getD_cons_succ]), ?_⟩ (by omega)
      simp only [hst, encN]
  obtain rfl : i = s.length := by omega
  clear hN
  rw [List.take_length, lstN_find r3]
  simp only [okC, allIn, inB, Bool.and_eq_true, decide_eq_true_eq, Bool.and_true] at o1
  cases hfs : s.find? (fun x => decide (x.item = c.item)) with
  | none =>
    simp only [n64, r64, g0, g1, g2, g7, g8, g9, g10, hlt, encN, Option.getD_none, zN, SB, Nat.reduceLT, callee, aOp, ne_eq, Nat.reduceEqDiff, aBin, aUn, if_true, if_false, reduceCtorEq, frame0, place, notTuple, Nat.reduceAdd, Nat.reduceLeDiff, resVal, dite_true, dite_false, Int.reduceEq, Int.reduceLT, Int.reduceLE]
    simp [decideS, vrd, fileS, hfs]
  | some x =>
    have hxm := List.mem_of_find?_eq_some hfs
    have hxi : x.item = c.item := by simpa using List.find?_some hfs
    obtain ⟨hxo, hxc⟩ := rightN_mem r3 hxm
    simp only [okN, allIn, inB, Bool.and_eq_true, Bool.or_eq_true, decide_eq_true_eq, Bool.and_true] at hxo
    have hx0 : ¬ x.item = 0 := by omega
    have hP := fun mp lim X Q => refPromise_ok (mp := mp) (lim := lim) (cap := k1) (c := x.cls) (f := x.frm) (t := x.to) (a := x.acc) (Q := Q) (hl.app X) nl ul
    have hff : fileS l t s c = ⟨x, (t.find? (fun y => decide (y.cls = x.cls))).getD default, (prom l x.cls x.frm x.to x.acc).1, true, (t.find? (fun y => decide (y.cls = x.cls))).isSome && (prom l x.cls x.frm x.to x.acc).2.2, decide (¬ x.del = -1) && decide (x.del ≤ c.tm)⟩ := by simp [fileS, hfs]
    obtain ⟨s1, s2⟩ := prom_sound (l := l) (c := x.cls) (f := x.frm) (t := x.to) (a := x.acc) r1 (by omega)
    simp only [n64, r64, g0, g1, g2, g7, g8, g9, g10, hlt, encN, Option.getD_some, hx0, hP, SB, Nat.reduceLT, callee, aOp, ne_eq, Nat.reduceEqDiff, aBin, aUn, if_true, if_false, reduceCtorEq, frame0, place, notTuple, Nat.reduceAdd, Nat.reduceLeDiff, resVal, dite_true, dite_false, Int.reduceEq, Int.reduceLT, Int.reduceLE]
    refine Ret_rounds (fun i => t.length - i) (fun i fr G => i ≤ t.length ∧ fr 1 = .slice pt t.length k2 ∧ fr 7 = .pointer (some ⟨H.length, 0, none⟩) ∧ fr 8 = .pointer (some ⟨H.length + 1, 0, none⟩) ∧ fr 9 = .pointer (some ⟨H.length + 2, 0, none⟩) ∧ fr 11 = .int .i64 (promiseS l x.cls x.frm x.to x.acc).1 ∧ fr 12 = .int .i64 (promiseS l x.cls x.frm x.to x.acc).2 ∧
      fr 13 = .pointer (some ⟨H.length + 3, 0, none⟩) ∧ fr 14 = .int .i64 (i : Int) ∧ G = H ++ [.cells false [.int .i64 c.id, .int .i64 c.item, .int .i64 c.tm, .int .u8 c.kind, .int .i64 c.post, .int .i64 c.val], .cells false [.int .i64 0, .int .i64 0, .int .u8 0], .cells false [.int .i64 x.item, .int .u8 x.cls, .int .i64 x.frm, .int .i64 x.to, .int .i64 x.acc, .int .i64 x.del], .cells false (encT (lstT x.cls (t.take i)))]) 0 ⟨Nat.zero_le _, (by simp only [g1, upd_same, upd_ne, ne_eq, Nat.reduceEqDiff, not_false_eq_true, frame0, List.getD_cons_zero, List.getD_cons_succ]), (by simp only [g7, upd_same, upd_ne, ne_eq, Nat.reduceEqDiff, not_false_eq_true, frame0, List.getD_cons_zero, List.getD_cons_succ]), (by simp only [g8, upd_same, upd_ne, ne_eq, Nat.reduceEqDiff, not_false_eq_true, frame0, List.getD_cons_zero, List.getD_cons_succ]), (by simp only [g9, upd_same, upd_ne, ne_eq, Nat.reduceEqDiff, not_false_eq_true, frame0, List.getD_cons_zero, List.getD_cons_succ]), (by simp only [upd_same, upd_ne, ne_eq, Nat.reduceEqDiff, not_false_eq_true, frame0, List.getD_cons_zero, List.getD_cons_succ]), (by simp only [upd_same, upd_ne, ne_eq, Nat.reduceEqDiff, not_false_eq_true, frame0, List.getD_cons_zero, List.getD_cons_succ]), (by simp only [upd_same, upd_ne, ne_eq, Nat.reduceEqDiff, not_false_eq_true, frame0, List.getD_cons_zero, List.getD_cons_succ]), by rfl, rfl⟩ ?_
    clear g0 g1 g2 g7 g8 g9 g10
    intro i fr G ⟨hi, g1, g7, g8, g9, g11, g12, g13, g14, hG⟩ hN
    subst hG
    rw [Ret_code l64_2.eq_1]
    by_cases hlt : i < t.length
    · have hld := fun X => (ht.app X).loadCells encT_len hlt
      have hldj := fun X j hj => (ht.app X).loadCell (j := j) encT_len hlt hj
      have hld0 := fun X => (ht.app X).loadCell0 encT_len hlt (by decide)
      have hidx := fun c (k : IntKind) (H1 : Heap) => ht.idx (c := c) (k := k) (H1 := H1) hlt
      have hw1 : IntKind.i64.wrap ((i : Int) + 1) = ((i + 1 : Nat) : Int) := wrap_nat (by omega)
      have hst := lstT_step (k := x.cls) hlt
      by_cases he : (gt t i).cls = x.cls
      · rw [if_pos he] at hst
        simp only [n64, r64, g1, g7, g8, g9, g11, g12, g13, g14, hlt, hld, hldj, hld0, hidx, hw1, encT, he, SB, Nat.reduceLT, callee, aOp, ne_eq, Nat.reduceEqDiff, aBin, aUn, if_true, if_false, reduceCtorEq, frame0, place, notTuple, Nat.reduceAdd, Nat.reduceLeDiff, resVal, dite_true, dite_false, Int.reduceEq, Int.reduceLT, Int.reduceLE]
        refine hN (i + 1) _ _ ⟨by omega, (by simp only [g1, upd_same, upd_ne, ne_eq, Nat.reduceEqDiff, not_false_eq_true, frame0, List.getD_cons_zero, List.getD_cons_succ]), (by simp only [g7, upd_same, upd_ne, ne_eq, Nat.reduceEqDiff, not_false_eq_true, frame0, List.getD_cons_zero, List.getD_cons_succ]), (by simp only [g8, upd_same, upd_ne, ne_eq, Nat.reduceEqDiff, not_false_eq_true, frame0, List.getD_cons_zero, List.getD_cons_succ]), (by simp only [g9, upd_same, upd_ne, ne_eq, Nat.reduceEqDiff, not_false_eq_true, frame0, List.getD_cons_zero, List.getD_cons_succ]), (by simp only [g11, upd_same, upd_ne, ne_eq, Nat.reduceEqDiff, not_false_eq_true, frame0, List.getD_cons_zero, List.getD_cons_succ]), (by simp only [g12, upd_same, upd_ne, ne_eq, Nat.reduceEqDiff, not_false_eq_true, frame0, List.getD_cons_zero, List.getD_cons_succ]), (by simp only [g13, upd_same, upd_ne, ne_eq, Nat.reduceEqDiff, not_false_eq_true, frame0, List.getD_cons_zero, List.getD_cons_succ]), (by simp only [upd_same, upd_ne, ne_eq, Nat.reduceEqDiff, not_false_eq_true, frame0, List.getD_cons_zero, List.getD_cons_succ]), ?_⟩ (by omega)
        simp only [hst, encT, he]
      · rw [if_neg he] at hst
        simp only [n64, r64, g1, g7, g8, g9, g11, g12, g13, g14, hlt, hld, hldj, hld0, hidx, hw1, encT, he, SB, Nat.reduceLT, callee, aOp, ne_eq, Nat.reduceEqDiff, aBin, aUn, if_true, if_false, reduceCtorEq, frame0, place, notTuple, Nat.reduceAdd, Nat.reduceLeDiff, resVal, dite_true, dite_false, Int.reduceEq, Int.reduceLT, Int.reduceLE]
        refine hN (i + 1) _ _ ⟨by omega, (by simp only [g1, upd_same, upd_ne, ne_eq, Nat.reduceEqDiff, not_false_eq_true, frame0, List.getD_cons_zero, List.getD_cons_succ]), (by simp only [g7, upd_same, upd_ne, ne_eq, Nat.reduceEqDiff, not_false_eq_true, frame0, List.getD_cons_zero, List.getD_cons_succ]), (by simp only [g8, upd_same, upd_ne, ne_eq, Nat.reduceEqDiff, not_false_eq_true, frame0, List.getD_cons_zero, List.getD_cons_succ]), (by simp only [g9, upd_same, upd_ne, ne_eq, Nat.reduceEqDiff, not_false_eq_true, frame0, List.getD_cons_zero, List.getD_cons_succ]), (by simp only [g11, upd_same, upd_ne, ne_eq, Nat.reduceEqDiff, not_false_eq_true, frame0, List.getD_cons_zero, List.getD_cons_succ]), (by simp only [g12, upd_same, upd_ne, ne_eq, Nat.reduceEqDiff, not_false_eq_true, frame0, List.getD_cons_zero, List.getD_cons_succ]), (by simp only [g13, upd_same, upd_ne, ne_eq, Nat.reduceEqDiff, not_false_eq_true, frame0, List.getD_cons_zero, List.getD_cons_succ]), (by simp only [upd_same, upd_ne, ne_eq, Nat.reduceEqDiff, not_false_eq_true, frame0, List.getD_cons_zero, List.getD_cons_succ]), ?_⟩ (by omega)
        simp only [hst, encT]
    obtain rfl : i = t.length := by omega
    clear hN
    rw [List.take_length, lstT_find r2]
    generalize hPS : promiseS l x.cls x.frm x.to x.acc = P at *
    by_cases e0 : P.2 = 0
    case neg =>
      have hpf : (prom l x.cls x.frm x.to x.acc).2.2 = false := by
        cases hq : (prom l x.cls x.frm x.to x.acc).2.2 with
        | false => rfl
        | true => exact absurd (s1.2 hq) e0
      simp only [n64, r64, g1, g7, g8, g9, g11, g12, g13, g14, hlt, encT, e0, SB, Nat.reduceLT, callee, aOp, ne_eq, Nat.reduceEqDiff, aBin, aUn, if_true, if_false, reduceCtorEq, frame0, place, notTuple, Nat.reduceAdd, Nat.reduceLeDiff, resVal, dite_true, dite_false, Int.reduceEq, Int.reduceLT, Int.reduceLE]
      simp [decideS, vrd, hff, hpf]
    have hpt := s1.1 e0
    have hp1 := s2 e0
    cases hft : t.find? (fun y => decide (y.cls = x.cls)) with
    | none =>
      simp only [n64, r64, g1, g7, g8, g9, g11, g12, g13, g14, hlt, encT, e0, Option.getD_none, zT, SB, Nat.reduceLT, callee, aOp, ne_eq, Nat.reduceEqDiff, aBin, aUn, if_true, if_false, reduceCtorEq, frame0, place, notTuple, Nat.reduceAdd, Nat.reduceLeDiff, resVal, dite_true, dite_false, Int.reduceEq, Int.reduceLT, Int.reduceLE]
      simp [decideS, vrd, hff, hft]
    | some y =>
      have hyc : y.cls = x.cls := by simpa using List.find?_some hft
      have hy0 : ¬ y.cls = 0 := by omega
      rw [hft, hpt, ← hp1] at hff
      simp only [Option.getD_some, Option.isSome_some, Bool.and_self] at hff
      rw [hff] at hfo
      obtain ⟨p1, p2, p3, p4, p5, p6, p7, p8⟩ := hfo
      simp only at p1 p2 p3 p4 p5 p6 p7 p8
      have hdn : (decide (¬ x.del = -1) && decide (x.del ≤ c.tm)) = decide (0 ≤ x.del ∧ x.del ≤ c.tm) := by
        rw [Bool.eq_iff_iff]; simp; omega
      rw [hdn] at hff
      have hdec : decideS l t s c = vrd c ⟨x, y, P.1, true, true, decide (0 ≤ x.del ∧ x.del ≤ c.tm)⟩ := by rw [decideS, hff]
      have w1 : IntKind.i64.wrap (1440 * y.wthn) = 1440 * y.wthn := wrap_id (by omega) (by omega)
      have w2 : IntKind.i64.wrap (P.1 + 1440 * y.wthn) = P.1 + 1440 * y.wthn := wrap_id (by omega) (by omega)
      have w3 : IntKind.i64.wrap (P.1 + y.free) = P.1 + y.free := wrap_id (by omega) (by omega)
      have w4 : IntKind.i64.wrap (P.1 + y.aft) = P.1 + y.aft := wrap_id (by omega) (by omega)
      have w5 : IntKind.i64.wrap (c.val + c.post) = c.val + c.post := wrap_id (by omega) (by omega)
      have w6 : IntKind.i64.wrap (y.lmt + c.post) = y.lmt + c.post := wrap_id (by omega) (by omega)
      rw [hdec]
      by_cases c1 : P.1 + 1440 * y.wthn < c.tm
      · simp only [n64, r64, g1, g7, g8, g9, g11, g12, g13, g14, hlt, encT, e0, Option.getD_some, hy0, w1, w2, c1, SB, Nat.reduceLT, callee, aOp, ne_eq, Nat.reduceEqDiff, aBin, aUn, if_true, if_false, reduceCtorEq, frame0, place, notTuple, Nat.reduceAdd, Nat.reduceLeDiff, resVal, dite_true, dite_false, Int.reduceEq, Int.reduceLT, Int.reduceLE]
        have c1' : P.1 + y.wthn * 1440 < c.tm := by omega
        simp [vrd, c1']
      have c1' : ¬ P.1 + y.wthn * 1440 < c.tm := by omega
      by_cases hd : 0 ≤ x.del ∧ x.del ≤ c.tm
      · rcases o2 with hk | hk
        · by_cases c2 : x.del ≤ P.1 + y.free
          · simp only [n64, r64, g1, g7, g8, g9, g11, g12, g13, g14, hlt, encT, e0, Option.getD_some, hy0, w1, w2, w3, c1, hd.1, hd.2, hk, c2, SB, Nat.reduceLT, callee, aOp, ne_eq, Nat.reduceEqDiff, aBin, aUn, if_true, if_false, reduceCtorEq, frame0, place, notTuple, Nat.reduceAdd, Nat.reduceLeDiff, resVal, dite_true, dite_false, Int.reduceEq, Int.reduceLT, Int.reduceLE]
            simp [vrd, c1', hk, hd, c2]
          · simp only [n64, r64, g1, g7, g8, g9, g11, g12, g13, g14, hlt, encT, e0, Option.getD_some, hy0, w1, w2, w3, c1, hd.1, hd.2, hk, c2, SB, Nat.reduceLT, callee, aOp, ne_eq, Nat.reduceEqDiff, aBin, aUn, if_true, if_false, reduceCtorEq, frame0, place, notTuple, Nat.reduceAdd, Nat.reduceLeDiff, resVal, dite_true, dite_false, Int.reduceEq, Int.reduceLT, Int.reduceLE]
            generalize hD : (x.del - P.1 - y.free + 1439) / 1440 = D
            have hD1 : 1 ≤ D ∧ D ≤ 800000 := by omega
            refine Ret_rounds (fun d : Nat => D.toNat - d) (fun d fr G => (d : Int) ≤ D ∧ fr 7 = .pointer (some ⟨H.length, 0, none⟩) ∧ fr 8 = .pointer (some ⟨H.length + 1, 0, none⟩) ∧ fr 9 = .pointer (some ⟨H.length + 2, 0, none⟩) ∧ fr 11 = .int .i64 P.1 ∧ fr 13 = .pointer (some ⟨H.length + 3, 0, none⟩) ∧ fr 16 = .int .i64 (d : Int) ∧
              G = H ++ [.cells false [.int .i64 c.id, .int .i64 c.item, .int .i64 c.tm, .int .u8 1, .int .i64 c.post, .int .i64 c.val], .cells false [.int .i64 0, .int .i64 0, .int .u8 0], .cells false [.int .i64 x.item, .int .u8 x.cls, .int .i64 x.frm, .int .i64 x.to, .int .i64 x.acc, .int .i64 x.del], .cells false [.int .u8 y.cls, .int .i64 y.free, .int .i64 y.share, .int .i64 y.most, .int .i64 y.aft, .int .i64 y.lmt, .int .i64 y.wthn]]) 0 ⟨by omega, (by simp only [g7, upd_same, upd_ne, ne_eq, Nat.reduceEqDiff, not_false_eq_true, frame0, List.getD_cons_zero, List.getD_cons_succ]), (by simp only [g8, upd_same, upd_ne, ne_eq, Nat.reduceEqDiff, not_false_eq_true, frame0, List.getD_cons_zero, List.getD_cons_succ]), (by simp only [g9, upd_same, upd_ne, ne_eq, Nat.reduceEqDiff, not_false_eq_true, frame0, List.getD_cons_zero, List.getD_cons_succ]), (by simp only [g11, upd_same, upd_ne, ne_eq, Nat.reduceEqDiff, not_false_eq_true, frame0, List.getD_cons_zero, List.getD_cons_succ]), (by simp only [g13, upd_same, upd_ne, ne_eq, Nat.reduceEqDiff, not_false_eq_true, frame0, List.getD_cons_zero, List.getD_cons_succ]), by rfl, rfl⟩ ?_
            clear g1 g7 g8 g9 g11 g12 g13 g14
            intro d fr G ⟨hdD, g7, g8, g9, g11, g13, g16, hG⟩ hN
            subst hG
            rw [Ret_code l64_1.eq_1]
            have v1 : IntKind.i64.wrap (1440 * (d : Int)) = 1440 * (d : Int) := wrap_id (by omega) (by omega)
            have v2 : IntKind.i64.wrap (P.1 + y.free + 1440 * (d : Int)) = P.1 + y.free + 1440 * (d : Int) := wrap_id (by omega) (by omega)
            by_cases hdl : P.1 + y.free + 1440 * (d : Int) < x.del
            · have v3 : IntKind.i64.wrap ((d : Int) + 1) = ((d + 1 : Nat) : Int) := wrap_nat (by omega)
              simp only [n64, r64, g7, g8, g9, g11, g13, g16, w3, v1, v2, v3, hdl, SB, Nat.reduceLT, callee, aOp, ne_eq, Nat.reduceEqDiff, aBin, aUn, if_true, if_false, reduceCtorEq, frame0, place, notTuple, Nat.reduceAdd, Nat.reduceLeDiff, resVal, dite_true, dite_false, Int.reduceEq, Int.reduceLT, Int.reduceLE]
              exact hN (d + 1) _ _ ⟨by omega, (by simp only [g7, upd_same, upd_ne, ne_eq, Nat.reduceEqDiff, not_false_eq_true, frame0, List.getD_cons_zero, List.getD_cons_succ]), (by simp only [g8, upd_same, upd_ne, ne_eq, Nat.reduceEqDiff, not_false_eq_true, frame0, List.getD_cons_zero, List.getD_cons_succ]), (by simp only [g9, upd_same, upd_ne, ne_eq, Nat.reduceEqDiff, not_false_eq_true, frame0, List.getD_cons_zero, List.getD_cons_succ]), (by simp only [g11, upd_same, upd_ne, ne_eq, Nat.reduceEqDiff, not_false_eq_true, frame0, List.getD_cons_zero, List.getD_cons_succ]), (by simp only [g13, upd_same, upd_ne, ne_eq, Nat.reduceEqDiff, not_false_eq_true, frame0, List.getD_cons_zero, List.getD_cons_succ]), (by simp only [upd_same, upd_ne, ne_eq, Nat.reduceEqDiff, not_false_eq_true, frame0, List.getD_cons_zero, List.getD_cons_succ]), rfl⟩ (by omega)
            · have hDd : (d : Int) = D := by omega
              have m1 : 0 ≤ (d : Int) * y.share := Int.mul_nonneg (by omega) p3.1
              have m2 : (d : Int) * y.share ≤ 800000 * 10000 := Int.mul_le_mul (by omega) p3.2 p3.1 (by decide)
              have v4 : IntKind.i64.wrap ((d : Int) * y.share) = (d : Int) * y.share := wrap_id (by omega) (by omega)
              by_cases c3 : y.most < (d : Int) * y.share
              · have hS := fun mp lim H Q => refShare_ok (mp := mp) (lim := lim) (H := H) (Q := Q) (n := c.post) (p := y.most) (by omega) (by omega)
                simp only [n64, r64, g7, g8, g9, g11, g13, g16, w3, v1, v2, v4, hdl, c3, hS, SB, Nat.reduceLT, callee, aOp, ne_eq, Nat.reduceEqDiff, aBin, aUn, if_true, if_false, reduceCtorEq, frame0, place, notTuple, Nat.reduceAdd, Nat.reduceLeDiff, resVal, dite_true, dite_false, Int.reduceEq, Int.reduceLT, Int.reduceLE]
                simp [vrd, c1', hk, hd, c2, paidS, daysS, hD, ← hDd, minI, c3]
              · have hS := fun mp lim H Q => refShare_ok (mp := mp) (lim := lim) (H := H) (Q := Q) (n := c.post) (p := (d : Int) * y.share) (by omega) (by omega)
                simp only [n64, r64, g7, g8, g9, g11, g13, g16, w3, v1, v2, v4, hdl, c3, hS, SB, Nat.reduceLT, callee, aOp, ne_eq, Nat.reduceEqDiff, aBin, aUn, if_true, if_false, reduceCtorEq, frame0, place, notTuple, Nat.reduceAdd, Nat.reduceLeDiff, resVal, dite_true, dite_false, Int.reduceEq, Int.reduceLT, Int.reduceLE]
                simp [vrd, c1', hk, hd, c2, paidS, daysS, hD, ← hDd, minI, c3]
        · simp only [n64, r64, g1, g7, g8, g9, g11, g12, g13, g14, hlt, encT, e0, Option.getD_some, hy0, w1, w2, w3, c1, hd.1, hd.2, hk, SB, Nat.reduceLT, callee, aOp, ne_eq, Nat.reduceEqDiff, aBin, aUn, if_true, if_false, reduceCtorEq, frame0, place, notTuple, Nat.reduceAdd, Nat.reduceLeDiff, resVal, dite_true, dite_false, Int.reduceEq, Int.reduceLT, Int.reduceLE]
          simp [vrd, c1', hk, hd]
      · have hd' : ¬ 0 ≤ x.del ∨ (0 ≤ x.del ∧ ¬ x.del ≤ c.tm) := by omega
        rcases o2 with hk | hk
        · rcases hd' with q | ⟨q, q'⟩
          · simp only [n64, r64, g1, g7, g8, g9, g11, g12, g13, g14, hlt, encT, e0, Option.getD_some, hy0, w1, w2, w3, c1, q, hk, SB, Nat.reduceLT, callee, aOp, ne_eq, Nat.reduceEqDiff, aBin, aUn, if_true, if_false, reduceCtorEq, frame0, place, notTuple, Nat.reduceAdd, Nat.reduceLeDiff, resVal, dite_true, dite_false, Int.reduceEq, Int.reduceLT, Int.reduceLE]
            simp [vrd, c1', hk, hd]
          · simp only [n64, r64, g1, g7, g8, g9, g11, g12, g13, g14, hlt, encT, e0, Option.getD_some, hy0, w1, w2, w3, c1, q, q', hk, SB, Nat.reduceLT, callee, aOp, ne_eq, Nat.reduceEqDiff, aBin, aUn, if_true, if_false, reduceCtorEq, frame0, place, notTuple, Nat.reduceAdd, Nat.reduceLeDiff, resVal, dite_true, dite_false, Int.reduceEq, Int.reduceLT, Int.reduceLE]
            simp [vrd, c1', hk, hd]
        · by_cases c2 : c.tm ≤ P.1 + y.aft
          · rcases hd' with q | ⟨q, q'⟩
            · simp only [n64, r64, g1, g7, g8, g9, g11, g12, g13, g14, hlt, encT, e0, Option.getD_some, hy0, w1, w2, w4, c1, q, hk, c2, SB, Nat.reduceLT, callee, aOp, ne_eq, Nat.reduceEqDiff, aBin, aUn, if_true, if_false, reduceCtorEq, frame0, place, notTuple, Nat.reduceAdd, Nat.reduceLeDiff, resVal, dite_true, dite_false, Int.reduceEq, Int.reduceLT, Int.reduceLE]
              simp [vrd, c1', hk, hd, c2]
            · simp only [n64, r64, g1, g7, g8, g9, g11, g12, g13, g14, hlt, encT, e0, Option.getD_some, hy0, w1, w2, w4, c1, q, q', hk, c2, SB, Nat.reduceLT, callee, aOp, ne_eq, Nat.reduceEqDiff, aBin, aUn, if_true, if_false, reduceCtorEq, frame0, place, notTuple, Nat.reduceAdd, Nat.reduceLeDiff, resVal, dite_true, dite_false, Int.reduceEq, Int.reduceLT, Int.reduceLE]
              simp [vrd, c1', hk, hd, c2]
          · by_cases c3 : c.val < y.lmt
            · have c3' : ¬ y.lmt < c.val := by omega
              rcases hd' with q | ⟨q, q'⟩
              · simp only [n64, r64, g1, g7, g8, g9, g11, g12, g13, g14, hlt, encT, e0, Option.getD_some, hy0, w1, w2, w4, w5, c1, q, hk, c2, c3, SB, Nat.reduceLT, callee, aOp, ne_eq, Nat.reduceEqDiff, aBin, aUn, if_true, if_false, reduceCtorEq, frame0, place, notTuple, Nat.reduceAdd, Nat.reduceLeDiff, resVal, dite_true, dite_false, Int.reduceEq, Int.reduceLT, Int.reduceLE]
                simp [vrd, c1', hk, hd, c2, paidS, minI, c3']
              · simp only [n64, r64, g1, g7, g8, g9, g11, g12, g13, g14, hlt, encT, e0, Option.getD_some, hy0, w1, w2, w4, w5, c1, q, q', hk, c2, c3, SB, Nat.reduceLT, callee, aOp, ne_eq, Nat.reduceEqDiff, aBin, aUn, if_true, if_false, reduceCtorEq, frame0, place, notTuple, Nat.reduceAdd, Nat.reduceLeDiff, resVal, dite_true, dite_false, Int.reduceEq, Int.reduceLT, Int.reduceLE]
                simp [vrd, c1', hk, hd, c2, paidS, minI, c3']
            · have c3' : minI c.val y.lmt = y.lmt := by unfold minI; split <;> omega
              rcases hd' with q | ⟨q, q'⟩
              · simp only [n64, r64, g1, g7, g8, g9, g11, g12, g13, g14, hlt, encT, e0, Option.getD_some, hy0, w1, w2, w4, w6, c1, q, hk, c2, c3, SB, Nat.reduceLT, callee, aOp, ne_eq, Nat.reduceEqDiff, aBin, aUn, if_true, if_false, reduceCtorEq, frame0, place, notTuple, Nat.reduceAdd, Nat.reduceLeDiff, resVal, dite_true, dite_false, Int.reduceEq, Int.reduceLT, Int.reduceLE]
                simp [vrd, c1', hk, hd, c2, paidS, c3']
              · simp only [n64, r64, g1, g7, g8, g9, g11, g12, g13, g14, hlt, encT, e0, Option.getD_some, hy0, w1, w2, w4, w6, c1, q, q', hk, c2, c3, SB, Nat.reduceLT, callee, aOp, ne_eq, Nat.reduceEqDiff, aBin, aUn, if_true, if_false, reduceCtorEq, frame0, place, notTuple, Nat.reduceAdd, Nat.reduceLeDiff, resVal, dite_true, dite_false, Int.reduceEq, Int.reduceLT, Int.reduceLE]
                simp [vrd, c1', hk, hd, c2, paidS, c3']
theorem refDecide_ok {mp : Bool} {lim : Nat} {pl pt ps : Option Addr} {l : List Std} {t : List Trm} {s : List Snt} {c : Clm} {k1 k2 k3 : Nat} {H : Heap} {Q : Value → Heap → Prop}
    (hl : Sl H encS 4 pl l) (ht : Sl H encT 7 pt t) (hs : Sl H encN 6 ps s) (nl : l.length < 2 ^ 62) (nt : t.length < 2 ^ 62) (ns : s.length < 2 ^ 62) (ul : ∀ x ∈ l, 0 ≤ x.cls) (ut : ∀ x ∈ t, 0 ≤ x.cls) (us : ∀ x ∈ s, 0 ≤ x.cls) (uc : 0 ≤ c.kind ∧ c.kind < 256) :
    CallR E mp lim 48 [.slice pl l.length k1, .slice pt t.length k2, .slice ps s.length k3, .agg #[.int .i64 c.id, .int .i64 c.item, .int .i64 c.tm, .int .u8 c.kind, .int .i64 c.post, .int .i64 c.val]] H Q =
      Q (.tuple #[.agg (if checkS l t s [c] = 0 then #[.int .i64 c.id, .int .i64 (decideS l t s c).1, .int .u8 (decideS l t s c).2] else #[.int .i64 0, .int .i64 0, .int .u8 0]), .int .i64 (checkS l t s [c])]) H := by
  have hfl : flat 4 (.tuple #[.agg (if checkS l t s [c] = 0 then #[.int .i64 c.id, .int .i64 (decideS l t s c).1, .int .u8 (decideS l t s c).2] else #[.int .i64 0, .int .i64 0, .int .u8 0]), .int .i64 (checkS l t s [c])]) = true := by
    split <;> rfl
  refine pc (by decide) e48 rfl hfl ?_
  rw [b48, c48]
  have hck : ∀ (mp : Bool) (lim : Nat) (b0 b1 : Blk) (ro : Bool) (X : Heap) (Q : Value → Heap → Prop), CallR E mp lim 63 [.slice pl l.length k1, .slice pt t.length k2, .slice ps s.length k3, .slice (some ⟨H.length + 2, 0, none⟩) 1 1] (H ++ (b0 :: b1 :: .cells ro [.int .i64 c.id, .int .i64 c.item, .int .i64 c.tm, .int .u8 c.kind, .int .i64 c.post, .int .i64 c.val] :: X)) Q =
      Q (.int .i64 (checkS l t s [c])) (H ++ (b0 :: b1 :: .cells ro [.int .i64 c.id, .int .i64 c.item, .int .i64 c.tm, .int .u8 c.kind, .int .i64 c.post, .int .i64 c.val] :: X)) := by
    intro mp lim b0 b1 ro X Q
    exact refCheck_ok (c := [c]) (hl.app _) (ht.app _) (hs.app _) (Sl.lit encC_len (by rw [hget_new]; rfl) (by rw [hget_new]; rfl)) nl nt ns (by simp) ul ut us (by simpa using uc)
  by_cases h0 : checkS l t s [c] = 0
  · obtain ⟨r1, r2, r3, r4⟩ := checkS_ok h0
    obtain ⟨o1, o2⟩ := rightC_one r4
    have hv := fun mp lim X Q => verdict_ok (mp := mp) (lim := lim) (k1 := k1) (k2 := k2) (k3 := k3) (c := c) (Q := Q) (hl.app X) (ht.app X) (hs.app X) nl nt ns ul r1 r2 r3 o1 o2
    simp only [n48, r48, hck, h0, hv, SB, Nat.reduceLT, callee, aOp, ne_eq, Nat.reduceEqDiff, aBin, aUn, if_true, if_false, reduceCtorEq, frame0, place, notTuple, Nat.reduceAdd, Nat.reduceLeDiff, resVal, dite_true, dite_false, Int.reduceEq, Int.reduceLT, Int.reduceLE]
  · simp only [n48, r48, hck, h0, SB, Nat.reduceLT, callee, aOp, ne_eq, Nat.reduceEqDiff, aBin, aUn, if_true, if_false, reduceCtorEq, frame0, place, notTuple, Nat.reduceAdd, Nat.reduceLeDiff, resVal, dite_true, dite_false, Int.reduceEq, Int.reduceLT, Int.reduceLE]
theorem same_ok {mp : Bool} {lim : Nat} {a1 a2 a3 b1 b2 b3 : Int} {H : Heap} {Q : Value → Heap → Prop} :
    CallR E mp lim 47 [.agg #[.int .i64 a1, .int .i64 a2, .int .u8 a3], .agg #[.int .i64 b1, .int .i64 b2, .int .u8 b3]] H Q = Q (.bool (decide (a1 = b1 ∧ a2 = b2 ∧ a3 = b3))) H := by
  refine pc (by decide) e47 rfl rfl ?_
  rw [b47, c47]
  simp only [n47, r47, SB, Nat.reduceLT, callee, aOp, ne_eq, Nat.reduceEqDiff, aBin, aUn, if_true, if_false, reduceCtorEq, frame0, place, notTuple, Nat.reduceAdd, Nat.reduceLeDiff, resVal, dite_true, dite_false, Int.reduceEq, Int.reduceLT, Int.reduceLE]
  repeat' ((first | refine wantK_dec (fun hw => ?_) (fun hw => ?_) | refine condK_dec (fun hw => ?_) (fun hw => ?_) | refine wantK_any (fun hw => ?_) (fun hw => ?_) | refine condK_any (fun hw => ?_) (fun hw => ?_)) <;> (try simp only [hw, n47, r47, SB, Nat.reduceLT, callee, aOp, ne_eq, Nat.reduceEqDiff, aBin, aUn, if_true, if_false, reduceCtorEq, frame0, place, notTuple, Nat.reduceAdd, Nat.reduceLeDiff, resVal, dite_true, dite_false, Int.reduceEq, Int.reduceLT, Int.reduceLE]))
  all_goals simp [*]
end Go.Proofs.Ytlmoijifgbkapaa.Fn
namespace Go.Proofs.Ytlmoijifgbkapaa.Fn
open Go.AM Go.AM.Sym
set_option maxRecDepth 100000
set_option linter.unusedVariables false
set_option linter.unusedSimpArgs false
set_option maxHeartbeats 4000000

theorem Lt_irrefl (a : Clm) : ¬ Lt a a := by unfold Lt; omega
theorem Lt_trans {a b c : Clm} (h1 : Lt a b) (h2 : Lt b c) : Lt a c := by unfold Lt at *; omega
/-- The pass for the least one. -/
def pick (r : List Clm) : Nat → Nat
  | 0 => 0
  | j + 1 => if j = 0 then 0 else if (gt r j).tm < (gt r (pick r j)).tm ∨ (gt r j).tm = (gt r (pick r j)).tm ∧ (gt r j).id < (gt r (pick r j)).id then j else pick r j
theorem pick_lt (r : List Clm) : ∀ j, 0 < j → pick r j < j
  | 1, _ => by simp [pick]
  | j + 2, _ => by
    rw [pick, if_neg (by omega)]
    split
    · omega
    · have := pick_lt r (j + 1) (by omega); omega
theorem pick_least (r : List Clm) : ∀ j, 0 < j → ∀ i, i < j → ¬ Lt (gt r i) (gt r (pick r j))
  | 1, _, i, hi => by
    obtain rfl : i = 0 := by omega
    exact Lt_irrefl _
  | j + 2, _, i, hi => by
    have ih := pick_least r (j + 1) (by omega)
    rw [pick, if_neg (by omega)]
    split
    · rename_i h
      by_cases e : i = j + 1
      · subst e; exact Lt_irrefl _
      · intro h2; exact ih i (by omega) (Lt_trans h2 h)
    · rename_i h
      by_cases e : i = j + 1
      · subst e; exact h
      · exact ih i (by omega)
theorem pick_step {r : List Clm} {j : Nat} (hj : 0 < j) : pick r (j + 1) = if (gt r j).tm < (gt r (pick r j)).tm ∨ (gt r j).tm = (gt r (pick r j)).tm ∧ (gt r j).id < (gt r (pick r j)).id then j else pick r j := by
  rw [pick, if_neg (by omega)]
theorem pick_first {r rest : List Clm} {x : Clm} (hp : r.Perm (x :: rest)) (hs : (x :: rest).Pairwise Lt) : gt r (pick r r.length) = x ∧ (r.take (pick r r.length) ++ r.drop (pick r r.length + 1)).Perm rest := by
  have hl : 0 < r.length := by rw [hp.length_eq]; simp
  have hk := pick_lt r r.length hl
  have hm := pick_least r r.length hl
  generalize pick r r.length = k at *
  have hx : gt r k = x := by
    have h1 : gt r k ∈ x :: rest := hp.subset (gt_mem hk)
    rcases List.mem_cons.1 h1 with h | h
    · exact h
    · exfalso
      obtain ⟨i, hi, he⟩ := List.mem_iff_getElem.1 (hp.symm.subset (List.mem_cons_self (a := x) (l := rest)))
      rw [List.pairwise_cons] at hs
      have := hm i hi
      rw [gt_lt hi, he] at this
      exact this (hs.1 _ h)
  refine ⟨hx, ?_⟩
  have e0 : r = r.take k ++ gt r k :: r.drop (k + 1) := by rw [gt_lt hk, ← List.drop_eq_getElem_cons hk, List.take_append_drop]
  have h2 : (x :: (r.take k ++ r.drop (k + 1))).Perm (x :: rest) := by
    refine List.Perm.trans ?_ hp
    conv => rhs; rw [e0, hx]
    exact List.perm_middle.symm
  exact (List.perm_cons x).1 h2

theorem refSettle_bad {lim : Nat} {pl pt ps pc : Option Addr} {l : List Std} {t : List Trm} {s : List Snt} {c : List Clm} {k1 k2 k3 k4 : Nat} {H : Heap} (hl : Sl H encS 4 pl l) (ht : Sl H encT 7 pt t) (hs : Sl H encN 6 ps s) (hc : Sl H encC 6 pc c) (nl : l.length < 2 ^ 62) (nt : t.length < 2 ^ 62) (ns : s.length < 2 ^ 62) (nc : c.length < 2 ^ 62) (ul : ∀ x ∈ l, 0 ≤ x.cls) (ut : ∀ x ∈ t, 0 ≤ x.cls) (us : ∀ x ∈ s, 0 ≤ x.cls) (uc : ∀ x ∈ c, 0 ≤ x.kind ∧ x.kind < 256) (h0 : ¬ checkS l t s c = 0) {Q : Value → Heap → Prop} : CallR E false lim 46 [.slice pl l.length k1, .slice pt t.length k2, .slice ps s.length k3, .slice pc c.length k4] H Q = Q (.tuple #[.slice none 0 0, .int .i64 (checkS l t s c)]) H := by
  refine runs (by decide) e46 rfl ?_
  rw [b46, c46]
  refine Ret_pad ?_
  have hck := fun mp lim X Q => refCheck_ok (mp := mp) (lim := lim) (k1 := k1) (k2 := k2) (k3 := k3) (k4 := k4) (Q := Q) (hl.app X) (ht.app X) (hs.app X) (hc.app X) nl nt ns nc ul ut us uc
  simp only [n46, r46, hck, h0, SB, Nat.reduceLT, callee, aOp, ne_eq, Nat.reduceEqDiff, aBin, aUn, if_true, if_false, reduceCtorEq, frame0, place, notTuple, Nat.reduceAdd, Nat.reduceLeDiff, resVal, dite_true, dite_false, Int.reduceEq, Int.reduceLT, Int.reduceLE]
  exact List.append_nil _

/-- The first of the claims that are left: the list without it. -/
theorem cut_cells {cs : List Value} {r : List Clm} {k : Nat} (hk : k < r.length) (hcs : cs.take (r.length * 6) = r.flatMap encC) :
    cs.take (k * 6) ++ (cs.drop ((k + 1) * 6)).take ((r.length - (k + 1)) * 6) = (r.take k ++ r.drop (k + 1)).flatMap encC := by
  have h1 : cs.take (k * 6) = (r.take k).flatMap encC := by
    have := congrArg (List.take (k * 6)) hcs
    rw [List.take_take, Nat.min_eq_left (by omega)] at this
    rw [this]
    conv => lhs; rw [← List.take_append_drop k r, List.flatMap_append]
    rw [List.take_left' (by rw [flat_len encC_len, List.length_take]; omega)]
  have h2 : (cs.drop ((k + 1) * 6)).take ((r.length - (k + 1)) * 6) = (r.drop (k + 1)).flatMap encC := by
    have := congrArg (List.drop ((k + 1) * 6)) hcs
    rw [List.drop_take, show r.length * 6 - (k + 1) * 6 = (r.length - (k + 1)) * 6 by omega] at this
    rw [this]
    conv => lhs; rw [← List.take_append_drop (k + 1) r, List.flatMap_append]
    rw [List.drop_left' (by rw [flat_len encC_len, List.length_take]; omega)]
  rw [h1, h2, List.flatMap_append]
theorem take_cells {cs : List Value} {r : List Clm} {k : Nat} (hk : k ≤ r.length) (hcs : cs.take (r.length * 6) = r.flatMap encC) : cs.take (k * 6) = (r.take k).flatMap encC := by
  have := congrArg (List.take (k * 6)) hcs
  rw [List.take_take, Nat.min_eq_left (by omega)] at this
  rw [this]
  conv => lhs; rw [← List.take_append_drop k r, List.flatMap_append]
  rw [List.take_left' (by rw [flat_len encC_len, List.length_take]; omega)]

/-- What is left of the claims lies there. -/
def Left (lim : Nat) (G : Heap) (R : Nat) (r : List Clm) : Prop := ∃ cs, hget G R = .cells false cs ∧ lim ≤ R ∧ cs.take (r.length * 6) = r.flatMap encC ∧ r.length * 6 ≤ cs.length
theorem Left.sl {lim : Nat} {G : Heap} {R : Nat} {r : List Clm} (h : Left lim G R r) : Sl G encC 6 (some ⟨R, 0, none⟩) r := by
  obtain ⟨cs, h1, _, h3, h4⟩ := h
  exact ⟨rfl, fun _ => ⟨false, cs, h1, by simpa using h4, by simpa using h3⟩⟩

theorem refSettle_run {lim : Nat} {pl pt ps pc : Option Addr} {l : List Std} {t : List Trm} {s : List Snt} {c : List Clm} {k1 k2 k3 k4 : Nat} {H : Heap} (hl : Sl H encS 4 pl l) (ht : Sl H encT 7 pt t) (hs : Sl H encN 6 ps s) (hc : Sl H encC 6 pc c) (nl : l.length < 2 ^ 62) (nt : t.length < 2 ^ 62) (ns : s.length < 2 ^ 62) (nc : c.length < 2 ^ 62) (ul : ∀ x ∈ l, 0 ≤ x.cls) (ut : ∀ x ∈ t, 0 ≤ x.cls) (us : ∀ x ∈ s, 0 ≤ x.cls) (uc : ∀ x ∈ c, 0 ≤ x.kind ∧ x.kind < 256) (hlim : lim ≤ H.length) (h0 : checkS l t s c = 0) (hpn : c ≠ [] → pc ≠ none) {d : List Clm} (hp : d.Perm c) (hlt : d.Pairwise Lt) :
    ∃ (p : Option Addr) (k : Nat) (Y : Heap), Sl (H ++ Y) encO 3 p (goO l t s [] d) ∧ ∀ Q, CallR E false lim 46 [.slice pl l.length k1, .slice pt t.length k2, .slice ps s.length k3, .slice pc c.length k4] H Q = Q (.tuple #[.slice p c.length k, .int .i64 0]) (H ++ Y) := by
  obtain ⟨r1, r2, r3, r4⟩ := checkS_ok h0
  have hn : c.length ≤ 500 := by
    unfold rightC at r4
    simp only [Bool.and_eq_true, decide_eq_true_eq] at r4
    exact r4.1
  have hck := fun mp lim X Q => refCheck_ok (mp := mp) (lim := lim) (k1 := k1) (k2 := k2) (k3 := k3) (k4 := k4) (Q := Q) (hl.app X) (ht.app X) (hs.app X) (hc.app X) nl nt ns nc ul ut us uc
  by_cases hc0 : c = []
  · subst hc0
    obtain rfl : d = [] := List.Perm.eq_nil hp
    refine ⟨none, 0, [.cells false []], rfl, fun Q => ?_⟩
    refine runs (by decide) e46 rfl ?_
    rw [b46, c46]
    refine Ret_pad ?_
    have happ : ∀ X, aAppend lim none 6 48 false (.slice (some ⟨H.length, 0, none⟩) 0 0) (.slice pc 0 k4) (H ++ X) = some (.slice (some ⟨H.length, 0, none⟩) 0 0, H ++ X) := fun X => append_none (by decide) (.inl rfl) (by unfold maxBytes; omega) (by decide) (by decide) (by cases pc with | none => exact .inl rfl | some a => exact .inr ⟨a, rfl⟩)
    simp only [List.length_nil] at hck
    simp only [n46, r46, hck, h0, happ, SB, Nat.reduceLT, callee, aOp, ne_eq, Nat.reduceEqDiff, aBin, aUn, if_true, if_false, reduceCtorEq, frame0, place, notTuple, Nat.reduceAdd, Nat.reduceLeDiff, resVal, dite_true, dite_false, Int.reduceEq, Int.reduceLT, Int.reduceLE]
    rw [Ret_loop, Ret_code l46_3.eq_1]
    simp only [n46, r46, SB, Nat.reduceLT, callee, aOp, ne_eq, Nat.reduceEqDiff, aBin, aUn, if_true, if_false, reduceCtorEq, frame0, place, notTuple, Nat.reduceAdd, Nat.reduceLeDiff, resVal, dite_true, dite_false, Int.reduceEq, Int.reduceLT, Int.reduceLE]
  have hcl : 0 < c.length := by cases c with | nil => exact absurd rfl hc0 | cons x c => simp
  have key : CallR E false lim 46 [.slice pl l.length k1, .slice pt t.length k2, .slice ps s.length k3, .slice pc c.length k4] H (fun v G => Ext H G ∧ ∃ p k, v = .tuple #[.slice p c.length k, .int .i64 0] ∧ Sl G encO 3 p (goO l t s [] d)) := by
    refine run0 (by decide) e46 rfl ?_
    rw [b46, c46]
    have happ := fun X => append_fresh (lim := lim) (bytes := 48) (c := k4) (b := H.length) (H := H ++ (.cells false [] :: X)) (by rw [hget_new0]; rfl) (hc.app _) (hpn hc0) (by omega) (by decide : (6 : Nat) ≠ 0) (by unfold maxBytes; omega) (by omega)
    simp only [n46, r46, hck, h0, happ, SB, Nat.reduceLT, callee, aOp, ne_eq, Nat.reduceEqDiff, aBin, aUn, if_true, if_false, reduceCtorEq, frame0, place, notTuple, Nat.reduceAdd, Nat.reduceLeDiff, resVal, dite_true, dite_false, Int.reduceEq, Int.reduceLT, Int.reduceLE]
    refine Ret_rounds (fun rest : List Clm => rest.length) (fun rest fr G => ∃ dn r R p12 k12 p13 k13, d = dn ++ rest ∧ r.Perm rest ∧ fr 0 = .slice pl l.length k1 ∧ fr 1 = .slice pt t.length k2 ∧ fr 2 = .slice ps s.length k3 ∧ fr 11 = .slice (some ⟨R, 0, none⟩) r.length (loose 6) ∧ fr 12 = .slice p12 dn.length k12 ∧ fr 13 = .slice p13 (paidA l t s dn).length k13 ∧
      Ext H G ∧ Left H.length G R r ∧ Own H.length G encO 3 p12 k12 (goO l t s [] dn) ∧ Own H.length G encI 1 p13 k13 (paidA l t s dn) ∧ (∀ a, p12 = some a → a.block ≠ R) ∧ (∀ a, p13 = some a → a.block ≠ R) ∧ (∀ a b, p12 = some a → p13 = some b → a.block ≠ b.block) ∧ (paidA l t s dn).length ≤ dn.length)
      d ⟨[], c, H.length + 1, none, 0, none, 0, rfl, hp.symm, (by simp only [upd_same, upd_ne, ne_eq, Nat.reduceEqDiff, not_false_eq_true, frame0, List.getD_cons_zero, List.getD_cons_succ]), (by simp only [upd_same, upd_ne, ne_eq, Nat.reduceEqDiff, not_false_eq_true, frame0, List.getD_cons_zero, List.getD_cons_succ]), (by simp only [upd_same, upd_ne, ne_eq, Nat.reduceEqDiff, not_false_eq_true, frame0, List.getD_cons_zero, List.getD_cons_succ]), (by simp only [upd_same, upd_ne, ne_eq, Nat.reduceEqDiff, not_false_eq_true, frame0, List.getD_cons_zero, List.getD_cons_succ]), by rfl, by rfl, Ext.refl.app, ⟨c.flatMap encC, hget_new, by omega, by rw [List.take_of_length_le]; rw [flat_len encC_len]; exact Nat.le_refl _, by rw [flat_len encC_len]; exact Nat.le_refl _⟩, Own.nil, Own.nil, (fun a h => by cases h), (fun a h => by cases h), (fun a b h => by cases h), Nat.le_refl _⟩ ?_
    rintro rest fr G ⟨dn, r, R, p12, k12, p13, k13, hd, hr, g0, g1, g2, g11, g12, g13, hE, hLf, hO, hI, a1, a2, a3, hpl⟩ hN
    rw [Ret_code l46_3.eq_1]
    refine Ret_pad ?_
    cases rest with
    | nil =>
      obtain rfl : r = [] := List.Perm.eq_nil hr
      rw [List.append_nil] at hd
      subst hd
      have hdl : d.length = c.length := hp.length_eq
      simp only [n46, r46, g0, g1, g2, g11, g12, g13, SB, Nat.reduceLT, callee, aOp, ne_eq, Nat.reduceEqDiff, aBin, aUn, if_true, if_false, reduceCtorEq, frame0, place, notTuple, Nat.reduceAdd, Nat.reduceLeDiff, resVal, dite_true, dite_false, Int.reduceEq, Int.reduceLT, Int.reduceLE]
      refine ⟨hE.app, p12, k12, by rw [hdl], (hO.app _).sl encO_len⟩
    | cons x rest =>
    have hrl : 0 < r.length := by rw [hr.length_eq]; simp
    have hxs : (x :: rest).Pairwise Lt := by
      rw [hd] at hlt
      exact (List.pairwise_append.1 hlt).2.1
    obtain ⟨hpx, hpr⟩ := pick_first hr hxs
    have hkl := pick_lt r r.length hrl
    have hrc : r.length ≤ c.length := by
      rw [hr.length_eq, ← hp.length_eq, hd, List.length_append]; omega
    have hdc : dn.length < c.length := by
      rw [← hp.length_eq, hd, List.length_append]; simp
    have hL := hE.len
    have hsl := hLf.sl
    simp only [n46, r46, g0, g1, g2, g11, g12, g13, hrl, SB, Nat.reduceLT, callee, aOp, ne_eq, Nat.reduceEqDiff, aBin, aUn, if_true, if_false, reduceCtorEq, frame0, place, notTuple, Nat.reduceAdd, Nat.reduceLeDiff, resVal, dite_true, dite_false, Int.reduceEq, Int.reduceLT, Int.reduceLE]
    refine Ret_rounds (fun j => r.length - j) (fun j fr2 G2 => 0 < j ∧ j ≤ r.length ∧ fr2 0 = .slice pl l.length k1 ∧ fr2 1 = .slice pt t.length k2 ∧ fr2 2 = .slice ps s.length k3 ∧ fr2 11 = .slice (some ⟨R, 0, none⟩) r.length (loose 6) ∧ fr2 12 = .slice p12 dn.length k12 ∧ fr2 13 = .slice p13 (paidA l t s dn).length k13 ∧ fr2 14 = .int .i64 (pick r j : Int) ∧ fr2 15 = .int .i64 (j : Int) ∧ G2 = G ++ [])
      1 ⟨by decide, hrl, (by simp only [g0, upd_same, upd_ne, ne_eq, Nat.reduceEqDiff, not_false_eq_true, frame0, List.getD_cons_zero, List.getD_cons_succ]), (by simp only [g1, upd_same, upd_ne, ne_eq, Nat.reduceEqDiff, not_false_eq_true, frame0, List.getD_cons_zero, List.getD_cons_succ]), (by simp only [g2, upd_same, upd_ne, ne_eq, Nat.reduceEqDiff, not_false_eq_true, frame0, List.getD_cons_zero, List.getD_cons_succ]), (by simp only [g11, upd_same, upd_ne, ne_eq, Nat.reduceEqDiff, not_false_eq_true, frame0, List.getD_cons_zero, List.getD_cons_succ]), (by simp only [g12, upd_same, upd_ne, ne_eq, Nat.reduceEqDiff, not_false_eq_true, frame0, List.getD_cons_zero, List.getD_cons_succ]), (by simp only [g13, upd_same, upd_ne, ne_eq, Nat.reduceEqDiff, not_false_eq_true, frame0, List.getD_cons_zero, List.getD_cons_succ]), by rfl, by rfl, rfl⟩ ?_
    clear g0 g1 g2 g11 g12 g13
    intro j fr2 G2 ⟨hj0, hjr, g0, g1, g2, g11, g12, g13, g14, g15, hG2⟩ hN2
    subst hG2
    rw [Ret_code l46_2.eq_1]
    by_cases hjl : j < r.length
    · have hpj : pick r j < r.length := by have := pick_lt r j hj0; omega
      have hldj := fun X i hi => (hsl.app X).loadCell (j := i) encC_len hjl hi
      have hldj0 := fun X => (hsl.app X).loadCell0 encC_len hjl (by decide)
      have hidj := fun c (k : IntKind) (H1 : Heap) => hsl.idx (c := c) (k := k) (H1 := H1) hjl
      have hldp := fun X i hi => (hsl.app X).loadCell (j := i) encC_len hpj hi
      have hldp0 := fun X => (hsl.app X).loadCell0 encC_len hpj (by decide)
      have hidp := fun c (k : IntKind) (H1 : Heap) => hsl.idx (c := c) (k := k) (H1 := H1) hpj
      have hw1 : IntKind.i64.wrap ((j : Int) + 1) = ((j + 1 : Nat) : Int) := wrap_nat (by omega)
      have hstep := pick_step (r := r) hj0
      by_cases q1 : (gt r j).tm < (gt r (pick r j)).tm
      · rw [if_pos (.inl q1)] at hstep
        simp only [n46, r46, g0, g1, g2, g11, g12, g13, g14, g15, hjl, hldj, hldj0, hidj, hldp, hldp0, hidp, encC, q1, hw1, SB, Nat.reduceLT, callee, aOp, ne_eq, Nat.reduceEqDiff, aBin, aUn, if_true, if_false, reduceCtorEq, frame0, place, notTuple, Nat.reduceAdd, Nat.reduceLeDiff, resVal, dite_true, dite_false, Int.reduceEq, Int.reduceLT, Int.reduceLE]
        exact hN2 (j + 1) _ _ ⟨by omega, by omega, (by simp only [g0, upd_same, upd_ne, ne_eq, Nat.reduceEqDiff, not_false_eq_true, frame0, List.getD_cons_zero, List.getD_cons_succ]), (by simp only [g1, upd_same, upd_ne, ne_eq, Nat.reduceEqDiff, not_false_eq_true, frame0, List.getD_cons_zero, List.getD_cons_succ]), (by simp only [g2, upd_same, upd_ne, ne_eq, Nat.reduceEqDiff, not_false_eq_true, frame0, List.getD_cons_zero, List.getD_cons_succ]), (by simp only [g11, upd_same, upd_ne, ne_eq, Nat.reduceEqDiff, not_false_eq_true, frame0, List.getD_cons_zero, List.getD_cons_succ]), (by simp only [g12, upd_same, upd_ne, ne_eq, Nat.reduceEqDiff, not_false_eq_true, frame0, List.getD_cons_zero, List.getD_cons_succ]), (by simp only [g13, upd_same, upd_ne, ne_eq, Nat.reduceEqDiff, not_false_eq_true, frame0, List.getD_cons_zero, List.getD_cons_succ]), (by simp only [hstep, upd_same, upd_ne, ne_eq, Nat.reduceEqDiff, not_false_eq_true, frame0, List.getD_cons_zero, List.getD_cons_succ]), (by simp only [upd_same, upd_ne, ne_eq, Nat.reduceEqDiff, not_false_eq_true, frame0, List.getD_cons_zero, List.getD_cons_succ]), rfl⟩ (by omega)
      by_cases q2 : (gt r j).tm = (gt r (pick r j)).tm
      · by_cases q3 : (gt r j).id < (gt r (pick r j)).id
        · rw [if_pos (.inr ⟨q2, q3⟩)] at hstep
          simp only [n46, r46, g0, g1, g2, g11, g12, g13, g14, g15, hjl, hldj, hldj0, hidj, hldp, hldp0, hidp, encC, q1, eq_true q2, q3, hw1, SB, Nat.reduceLT, callee, aOp, ne_eq, Nat.reduceEqDiff, aBin, aUn, if_true, if_false, reduceCtorEq, frame0, place, notTuple, Nat.reduceAdd, Nat.reduceLeDiff, resVal, dite_true, dite_false, Int.reduceEq, Int.reduceLT, Int.reduceLE]
          exact hN2 (j + 1) _ _ ⟨by omega, by omega, (by simp only [g0, upd_same, upd_ne, ne_eq, Nat.reduceEqDiff, not_false_eq_true, frame0, List.getD_cons_zero, List.getD_cons_succ]), (by simp only [g1, upd_same, upd_ne, ne_eq, Nat.reduceEqDiff, not_false_eq_true, frame0, List.getD_cons_zero, List.getD_cons_succ]), (by simp only [g2, upd_same, upd_ne, ne_eq, Nat.reduceEqDiff, not_false_eq_true, frame0, List.getD_cons_zero, List.getD_cons_succ]), (by simp only [g11, upd_same, upd_ne, ne_eq, Nat.reduceEqDiff, not_false_eq_true, frame0, List.getD_cons_zero, List.getD_cons_succ]), (by simp only [g12, upd_same, upd_ne, ne_eq, Nat.reduceEqDiff, not_false_eq_true, frame0, List.getD_cons_zero, List.getD_cons_succ]), (by simp only [g13, upd_same, upd_ne, ne_eq, Nat.reduceEqDiff, not_false_eq_true, frame0, List.getD_cons_zero, List.getD_cons_succ]), (by simp only [hstep, upd_same, upd_ne, ne_eq, Nat.reduceEqDiff, not_false_eq_true, frame0, List.getD_cons_zero, List.getD_cons_succ]), (by simp only [upd_same, upd_ne, ne_eq, Nat.reduceEqDiff, not_false_eq_true, frame0, List.getD_cons_zero, List.getD_cons_succ]), rfl⟩ (by omega)
        · rw [if_neg (by omega)] at hstep
          simp only [n46, r46, g0, g1, g2, g11, g12, g13, g14, g15, hjl, hldj, hldj0, hidj, hldp, hldp0, hidp, encC, q1, eq_true q2, q3, hw1, SB, Nat.reduceLT, callee, aOp, ne_eq, Nat.reduceEqDiff, aBin, aUn, if_true, if_false, reduceCtorEq, frame0, place, notTuple, Nat.reduceAdd, Nat.reduceLeDiff, resVal, dite_true, dite_false, Int.reduceEq, Int.reduceLT, Int.reduceLE]
          exact hN2 (j + 1) _ _ ⟨by omega, by omega, (by simp only [g0, upd_same, upd_ne, ne_eq, Nat.reduceEqDiff, not_false_eq_true, frame0, List.getD_cons_zero, List.getD_cons_succ]), (by simp only [g1, upd_same, upd_ne, ne_eq, Nat.reduceEqDiff, not_false_eq_true, frame0, List.getD_cons_zero, List.getD_cons_succ]), (by simp only [g2, upd_same, upd_ne, ne_eq, Nat.reduceEqDiff, not_false_eq_true, frame0, List.getD_cons_zero, List.getD_cons_succ]), (by simp only [g11, upd_same, upd_ne, ne_eq, Nat.reduceEqDiff, not_false_eq_true, frame0, List.getD_cons_zero, List.getD_cons_succ]), (by simp only [g12, upd_same, upd_ne, ne_eq, Nat.reduceEqDiff, not_false_eq_true, frame0, List.getD_cons_zero, List.getD_cons_succ]), (by simp only [g13, upd_same, upd_ne, ne_eq, Nat.reduceEqDiff, not_false_eq_true, frame0, List.getD_cons_zero, List.getD_cons_succ]), (by simp only [hstep, g14, upd_same, upd_ne, ne_eq, Nat.reduceEqDiff, not_false_eq_true, frame0, List.getD_cons_zero, List.getD_cons_succ]), (by simp only [upd_same, upd_ne, ne_eq, Nat.reduceEqDiff, not_false_eq_true, frame0, List.getD_cons_zero, List.getD_cons_succ]), rfl⟩ (by omega)
      · rw [if_neg (by omega)] at hstep
        simp only [n46, r46, g0, g1, g2, g11, g12, g13, g14, g15, hjl, hldj, hldj0, hidj, hldp, hldp0, hidp, encC, q1, q2, hw1, SB, Nat.reduceLT, callee, aOp, ne_eq, Nat.reduceEqDiff, aBin, aUn, if_true, if_false, reduceCtorEq, frame0, place, notTuple, Nat.reduceAdd, Nat.reduceLeDiff, resVal, dite_true, dite_false, Int.reduceEq, Int.reduceLT, Int.reduceLE]
        exact hN2 (j + 1) _ _ ⟨by omega, by omega, (by simp only [g0, upd_same, upd_ne, ne_eq, Nat.reduceEqDiff, not_false_eq_true, frame0, List.getD_cons_zero, List.getD_cons_succ]), (by simp only [g1, upd_same, upd_ne, ne_eq, Nat.reduceEqDiff, not_false_eq_true, frame0, List.getD_cons_zero, List.getD_cons_succ]), (by simp only [g2, upd_same, upd_ne, ne_eq, Nat.reduceEqDiff, not_false_eq_true, frame0, List.getD_cons_zero, List.getD_cons_succ]), (by simp only [g11, upd_same, upd_ne, ne_eq, Nat.reduceEqDiff, not_false_eq_true, frame0, List.getD_cons_zero, List.getD_cons_succ]), (by simp only [g12, upd_same, upd_ne, ne_eq, Nat.reduceEqDiff, not_false_eq_true, frame0, List.getD_cons_zero, List.getD_cons_succ]), (by simp only [g13, upd_same, upd_ne, ne_eq, Nat.reduceEqDiff, not_false_eq_true, frame0, List.getD_cons_zero, List.getD_cons_succ]), (by simp only [hstep, g14, upd_same, upd_ne, ne_eq, Nat.reduceEqDiff, not_false_eq_true, frame0, List.getD_cons_zero, List.getD_cons_succ]), (by simp only [upd_same, upd_ne, ne_eq, Nat.reduceEqDiff, not_false_eq_true, frame0, List.getD_cons_zero, List.getD_cons_succ]), rfl⟩ (by omega)
    obtain rfl : j = r.length := by omega
    clear hN2
    generalize pick r r.length = k at *
    have hxc : x ∈ c := hp.subset (by rw [hd]; simp)
    obtain ⟨o1, o2⟩ := rightC_mem r4 hxc
    have hldx := fun X => (hsl.app X).loadCells encC_len hkl
    have hldj := fun X i hi => (hsl.app X).loadCell (j := i) encC_len hkl hi
    have hldj0 := fun X => (hsl.app X).loadCell0 encC_len hkl (by decide)
    have hidx := fun c (k : IntKind) (H1 : Heap) => hsl.idx (c := c) (k := k) (H1 := H1) hkl
    rw [hpx] at hldx hldj hldj0
    have hv := fun mp lim X Q => verdict_ok (mp := mp) (lim := lim) (k1 := k1) (k2 := k2) (k3 := k3) (c := x) (Q := Q) ((hE.sl hl).app X) ((hE.sl ht).app X) ((hE.sl hs).app X) nl nt ns ul r1 r2 r3 o1 o2
    generalize hvv : decideS l t s x = v at hv
    have hlimG : lim ≤ G.length := by omega
    simp only [n46, r46, g0, g1, g2, g11, g12, g13, g14, g15, hjl, hldx, hidx, encC, hv, hlimG, SB, Nat.reduceLT, callee, aOp, ne_eq, Nat.reduceEqDiff, aBin, aUn, if_true, if_false, reduceCtorEq, frame0, place, notTuple, Nat.reduceAdd, Nat.reduceLeDiff, resVal, dite_true, dite_false, Int.reduceEq, Int.reduceLT, Int.reduceLE]
    have hpd := hI.sl (fun _ => rfl)
    generalize hpa : paidA l t s dn = pa at *
    let cell : Nat → Int × Int × Int := fun i => if v.2 ≠ 1 ∧ x.item ∈ pa.take i then (x.id, 0, 7) else (x.id, v.1, v.2)
    refine Ret_rounds (fun i => pa.length - i) (fun i fr2 G2 => i ≤ pa.length ∧ fr2 0 = .slice pl l.length k1 ∧ fr2 1 = .slice pt t.length k2 ∧ fr2 2 = .slice ps s.length k3 ∧ fr2 11 = .slice (some ⟨R, 0, none⟩) r.length (loose 6) ∧ fr2 12 = .slice p12 dn.length k12 ∧ fr2 13 = .slice p13 pa.length k13 ∧ fr2 14 = .int .i64 (k : Int) ∧ fr2 16 = .pointer (some ⟨G.length, 0, none⟩) ∧ fr2 17 = .int .i64 (i : Int) ∧ G2 = G ++ [.cells false (encO (cell i))])
      0 ⟨Nat.zero_le _, (by simp only [g0, upd_same, upd_ne, ne_eq, Nat.reduceEqDiff, not_false_eq_true, frame0, List.getD_cons_zero, List.getD_cons_succ]), (by simp only [g1, upd_same, upd_ne, ne_eq, Nat.reduceEqDiff, not_false_eq_true, frame0, List.getD_cons_zero, List.getD_cons_succ]), (by simp only [g2, upd_same, upd_ne, ne_eq, Nat.reduceEqDiff, not_false_eq_true, frame0, List.getD_cons_zero, List.getD_cons_succ]), (by simp only [g11, upd_same, upd_ne, ne_eq, Nat.reduceEqDiff, not_false_eq_true, frame0, List.getD_cons_zero, List.getD_cons_succ]), (by simp only [g12, upd_same, upd_ne, ne_eq, Nat.reduceEqDiff, not_false_eq_true, frame0, List.getD_cons_zero, List.getD_cons_succ]), (by simp only [g13, upd_same, upd_ne, ne_eq, Nat.reduceEqDiff, not_false_eq_true, frame0, List.getD_cons_zero, List.getD_cons_succ]), (by simp only [g14, upd_same, upd_ne, ne_eq, Nat.reduceEqDiff, not_false_eq_true, frame0, List.getD_cons_zero, List.getD_cons_succ]), (by simp only [upd_same, upd_ne, ne_eq, Nat.reduceEqDiff, not_false_eq_true, frame0, List.getD_cons_zero, List.getD_cons_succ]), by rfl, by simp [cell, encO]⟩ ?_
    clear g0 g1 g2 g11 g12 g13 g14 g15
    intro i fr2 G2 ⟨hi, g0, g1, g2, g11, g12, g13, g14, g16, g17, hG2⟩ hN2
    subst hG2
    rw [Ret_code l46_1.eq_1]
    by_cases hil : i < pa.length
    · have hldi := fun X => (hpd.app X).loadCell0 (fun _ => rfl) hil (by decide)
      have hldi' := fun X i hi => (hpd.app X).loadCell (j := i) (fun _ => rfl) hil hi
      have hidi := fun c (k : IntKind) (H1 : Heap) => hpd.idx (c := c) (k := k) (H1 := H1) hil
      have hw1 : IntKind.i64.wrap ((i : Int) + 1) = ((i + 1 : Nat) : Int) := wrap_nat (by omega)
      have htk : pa.take (i + 1) = pa.take i ++ [gt pa i] := by rw [List.take_succ_eq_append_getElem hil, gt_lt hil]
      by_cases q1 : gt pa i = x.item
      · by_cases q2 : v.2 = 1
        · have hc1 : cell i = (x.id, v.1, v.2) := by simp [cell, q2]
          have hc2 : cell (i + 1) = (x.id, v.1, v.2) := by simp [cell, q2]
          rw [hc1]
          simp only [n46, r46, g0, g1, g2, g11, g12, g13, g14, g16, g17, hil, hldi, hldi', hidi, hldj, hldj0, hidx, encC, encO, encI, q1, q2, hw1, SB, Nat.reduceLT, callee, aOp, ne_eq, Nat.reduceEqDiff, aBin, aUn, if_true, if_false, reduceCtorEq, frame0, place, notTuple, Nat.reduceAdd, Nat.reduceLeDiff, resVal, dite_true, dite_false, Int.reduceEq, Int.reduceLT, Int.reduceLE]
          refine hN2 (i + 1) _ _ ⟨by omega, (by simp only [g0, upd_same, upd_ne, ne_eq, Nat.reduceEqDiff, not_false_eq_true, frame0, List.getD_cons_zero, List.getD_cons_succ]), (by simp only [g1, upd_same, upd_ne, ne_eq, Nat.reduceEqDiff, not_false_eq_true, frame0, List.getD_cons_zero, List.getD_cons_succ]), (by simp only [g2, upd_same, upd_ne, ne_eq, Nat.reduceEqDiff, not_false_eq_true, frame0, List.getD_cons_zero, List.getD_cons_succ]), (by simp only [g11, upd_same, upd_ne, ne_eq, Nat.reduceEqDiff, not_false_eq_true, frame0, List.getD_cons_zero, List.getD_cons_succ]), (by simp only [g12, upd_same, upd_ne, ne_eq, Nat.reduceEqDiff, not_false_eq_true, frame0, List.getD_cons_zero, List.getD_cons_succ]), (by simp only [g13, upd_same, upd_ne, ne_eq, Nat.reduceEqDiff, not_false_eq_true, frame0, List.getD_cons_zero, List.getD_cons_succ]), (by simp only [g14, upd_same, upd_ne, ne_eq, Nat.reduceEqDiff, not_false_eq_true, frame0, List.getD_cons_zero, List.getD_cons_succ]), (by simp only [g16, upd_same, upd_ne, ne_eq, Nat.reduceEqDiff, not_false_eq_true, frame0, List.getD_cons_zero, List.getD_cons_succ]), (by simp only [upd_same, upd_ne, ne_eq, Nat.reduceEqDiff, not_false_eq_true, frame0, List.getD_cons_zero, List.getD_cons_succ]), ?_⟩ (by omega)
          rw [hc2]; simp only [encO, q2]
        · have hc2 : cell (i + 1) = (x.id, 0, 7) := by simp only [cell]; rw [if_pos ⟨q2, by rw [htk]; simp [q1]⟩]
          by_cases q3 : x.item ∈ pa.take i
          · have hc1 : cell i = (x.id, 0, 7) := by simp only [cell]; rw [if_pos ⟨q2, q3⟩]
            rw [hc1]
            simp only [n46, r46, g0, g1, g2, g11, g12, g13, g14, g16, g17, hil, hldi, hldi', hidi, hldj, hldj0, hidx, encC, encO, encI, q1, hw1, hlimG, SB, Nat.reduceLT, callee, aOp, ne_eq, Nat.reduceEqDiff, aBin, aUn, if_true, if_false, reduceCtorEq, frame0, place, notTuple, Nat.reduceAdd, Nat.reduceLeDiff, resVal, dite_true, dite_false, Int.reduceEq, Int.reduceLT, Int.reduceLE]
            refine hN2 (i + 1) _ _ ⟨by omega, (by simp only [g0, upd_same, upd_ne, ne_eq, Nat.reduceEqDiff, not_false_eq_true, frame0, List.getD_cons_zero, List.getD_cons_succ]), (by simp only [g1, upd_same, upd_ne, ne_eq, Nat.reduceEqDiff, not_false_eq_true, frame0, List.getD_cons_zero, List.getD_cons_succ]), (by simp only [g2, upd_same, upd_ne, ne_eq, Nat.reduceEqDiff, not_false_eq_true, frame0, List.getD_cons_zero, List.getD_cons_succ]), (by simp only [g11, upd_same, upd_ne, ne_eq, Nat.reduceEqDiff, not_false_eq_true, frame0, List.getD_cons_zero, List.getD_cons_succ]), (by simp only [g12, upd_same, upd_ne, ne_eq, Nat.reduceEqDiff, not_false_eq_true, frame0, List.getD_cons_zero, List.getD_cons_succ]), (by simp only [g13, upd_same, upd_ne, ne_eq, Nat.reduceEqDiff, not_false_eq_true, frame0, List.getD_cons_zero, List.getD_cons_succ]), (by simp only [g14, upd_same, upd_ne, ne_eq, Nat.reduceEqDiff, not_false_eq_true, frame0, List.getD_cons_zero, List.getD_cons_succ]), (by simp only [g16, upd_same, upd_ne, ne_eq, Nat.reduceEqDiff, not_false_eq_true, frame0, List.getD_cons_zero, List.getD_cons_succ]), (by simp only [upd_same, upd_ne, ne_eq, Nat.reduceEqDiff, not_false_eq_true, frame0, List.getD_cons_zero, List.getD_cons_succ]), ?_⟩ (by omega)
            rw [hc2]; simp only [encO]
          · have hc1 : cell i = (x.id, v.1, v.2) := by simp only [cell]; rw [if_neg (fun h => q3 h.2)]
            rw [hc1]
            simp only [n46, r46, g0, g1, g2, g11, g12, g13, g14, g16, g17, hil, hldi, hldi', hidi, hldj, hldj0, hidx, encC, encO, encI, q1, q2, hw1, hlimG, SB, Nat.reduceLT, callee, aOp, ne_eq, Nat.reduceEqDiff, aBin, aUn, if_true, if_false, reduceCtorEq, frame0, place, notTuple, Nat.reduceAdd, Nat.reduceLeDiff, resVal, dite_true, dite_false, Int.reduceEq, Int.reduceLT, Int.reduceLE]
            refine hN2 (i + 1) _ _ ⟨by omega, (by simp only [g0, upd_same, upd_ne, ne_eq, Nat.reduceEqDiff, not_false_eq_true, frame0, List.getD_cons_zero, List.getD_cons_succ]), (by simp only [g1, upd_same, upd_ne, ne_eq, Nat.reduceEqDiff, not_false_eq_true, frame0, List.getD_cons_zero, List.getD_cons_succ]), (by simp only [g2, upd_same, upd_ne, ne_eq, Nat.reduceEqDiff, not_false_eq_true, frame0, List.getD_cons_zero, List.getD_cons_succ]), (by simp only [g11, upd_same, upd_ne, ne_eq, Nat.reduceEqDiff, not_false_eq_true, frame0, List.getD_cons_zero, List.getD_cons_succ]), (by simp only [g12, upd_same, upd_ne, ne_eq, Nat.reduceEqDiff, not_false_eq_true, frame0, List.getD_cons_zero, List.getD_cons_succ]), (by simp only [g13, upd_same, upd_ne, ne_eq, Nat.reduceEqDiff, not_false_eq_true, frame0, List.getD_cons_zero, List.getD_cons_succ]), (by simp only [g14, upd_same, upd_ne, ne_eq, Nat.reduceEqDiff, not_false_eq_true, frame0, List.getD_cons_zero, List.getD_cons_succ]), (by simp only [g16, upd_same, upd_ne, ne_eq, Nat.reduceEqDiff, not_false_eq_true, frame0, List.getD_cons_zero, List.getD_cons_succ]), (by simp only [upd_same, upd_ne, ne_eq, Nat.reduceEqDiff, not_false_eq_true, frame0, List.getD_cons_zero, List.getD_cons_succ]), ?_⟩ (by omega)
            rw [hc2]; simp only [encO]
      · have hc2 : cell (i + 1) = cell i := by
          simp only [cell]
          rw [htk]
          have : x.item ∈ pa.take i ++ [gt pa i] ↔ x.item ∈ pa.take i := by simp; intro h; exact absurd h.symm q1
          simp only [this]
        simp only [n46, r46, g0, g1, g2, g11, g12, g13, g14, g16, g17, hil, hldi, hldi', hidi, hldj, hldj0, hidx, encC, encI, q1, hw1, SB, Nat.reduceLT, callee, aOp, ne_eq, Nat.reduceEqDiff, aBin, aUn, if_true, if_false, reduceCtorEq, frame0, place, notTuple, Nat.reduceAdd, Nat.reduceLeDiff, resVal, dite_true, dite_false, Int.reduceEq, Int.reduceLT, Int.reduceLE]
        refine hN2 (i + 1) _ _ ⟨by omega, (by simp only [g0, upd_same, upd_ne, ne_eq, Nat.reduceEqDiff, not_false_eq_true, frame0, List.getD_cons_zero, List.getD_cons_succ]), (by simp only [g1, upd_same, upd_ne, ne_eq, Nat.reduceEqDiff, not_false_eq_true, frame0, List.getD_cons_zero, List.getD_cons_succ]), (by simp only [g2, upd_same, upd_ne, ne_eq, Nat.reduceEqDiff, not_false_eq_true, frame0, List.getD_cons_zero, List.getD_cons_succ]), (by simp only [g11, upd_same, upd_ne, ne_eq, Nat.reduceEqDiff, not_false_eq_true, frame0, List.getD_cons_zero, List.getD_cons_succ]), (by simp only [g12, upd_same, upd_ne, ne_eq, Nat.reduceEqDiff, not_false_eq_true, frame0, List.getD_cons_zero, List.getD_cons_succ]), (by simp only [g13, upd_same, upd_ne, ne_eq, Nat.reduceEqDiff, not_false_eq_true, frame0, List.getD_cons_zero, List.getD_cons_succ]), (by simp only [g14, upd_same, upd_ne, ne_eq, Nat.reduceEqDiff, not_false_eq_true, frame0, List.getD_cons_zero, List.getD_cons_succ]), (by simp only [g16, upd_same, upd_ne, ne_eq, Nat.reduceEqDiff, not_false_eq_true, frame0, List.getD_cons_zero, List.getD_cons_succ]), (by simp only [upd_same, upd_ne, ne_eq, Nat.reduceEqDiff, not_false_eq_true, frame0, List.getD_cons_zero, List.getD_cons_succ]), ?_⟩ (by omega)
        rw [hc2]
    obtain rfl : i = pa.length := by omega
    clear hN2
    have hcell : cell pa.length = outO l t s pa x := by
      simp only [cell, List.take_length, outO, hvv]
    rw [hcell]
    clear hcell cell hldx hv
    have ho : outO l t s (paidA l t s dn) x = outO l t s pa x := by rw [hpa]
    have hgo : goO l t s [] (dn ++ [x]) = goO l t s [] dn ++ [outO l t s pa x] := by rw [goO_snoc]; exact congrArg (fun z => _ ++ [z]) ho
    have hpn' : paidA l t s (dn ++ [x]) = if (outO l t s pa x).2.2 = 6 then pa ++ [x.item] else pa := by
      rw [paidA, List.foldl_append]
      show paidN l t s (paidA l t s dn) x = _
      rw [hpa]; rfl
    generalize outO l t s pa x = o at *
    clear ho
    have hgl : (goO l t s [] dn).length = dn.length := goO_len dn []
    have hdd : d = (dn ++ [x]) ++ rest := by rw [hd]; simp
    have hdl : dn.length < 500 := by omega
    have hpal : pa.length ≤ dn.length := hpl
    obtain ⟨cs, hR, hRl, hcs, hcl'⟩ := hLf
    have hRG := hget_alive hR
    have hk1 : k ≤ r.length := by omega
    have hk2 : k + 1 ≤ r.length := hkl
    have hwk : IntKind.i64.wrap ((k : Int) + 1) = ((k + 1 : Nat) : Int) := wrap_nat (by omega)
    have hcut := cut_cells hkl hcs
    have htake := take_cells (Nat.le_of_lt hkl) hcs
    have hR12 : ∀ a, p12 = some a → a.block < G.length := fun a h => (hO.block h).2
    have hR13 : ∀ a, p13 = some a → a.block < G.length := fun a h => (hI.block h).2
    by_cases c6 : o.2.2 = 6
    · rw [if_pos c6] at hpn'
      obtain ⟨G1, R1, u1, u2, hM1, hE1, happ1⟩ := hI.push1 (lim' := lim) (bytes := 8) hlim (fun _ => rfl) (by decide) x.item (by unfold maxBytes; omega) (by omega)
      have hne1 : ∀ a, p12 = some a → a.block ≠ R1 := by
        intro a ha
        cases hp13 : p13 with
        | none => rw [u1 hp13]; have := hR12 a ha; omega
        | some b => rw [u2 b hp13]; exact a3 a b ha hp13
      have hRR1 : R ≠ R1 := by
        cases hp13 : p13 with
        | none => rw [u1 hp13]; omega
        | some b => rw [u2 b hp13]; exact fun e => a2 b hp13 e.symm
      have hO1 := hO.mut hM1 hne1
      obtain ⟨G2, R2, v1, v2, hM2, hE2, happ2⟩ := hO1.push1 (lim' := lim) (bytes := 24) hlim encO_len (by decide) o (by unfold maxBytes; omega) (by omega)
      rw [hgl] at happ2
      have hRR2 : R ≠ R2 := by
        cases hp12 : p12 with
        | none => rw [v1 hp12, hM1.len]; omega
        | some b => rw [v2 b hp12]; exact fun e => a1 b hp12 e.symm
      have hl2 : G2.length = G.length := hM2.len.trans hM1.len
      have hRc : hget G2 R = .cells false cs := by rw [hM2.other R hRR2, hM1.other R hRR1]; exact hR
      have hr1 := len_rules hM1.len
      have hr2 := len_rules hl2
      simp only [encO, encI] at happ1 happ2
      have hEE : Ext H G2 := hE2 H (hE1 H hE (Nat.le_refl _)) (Nat.le_refl _)
      by_cases hm : r.length - (k + 1) = 0
      · have hnn : ∀ (X : Heap) dest cc, aAppend lim dest 6 48 false (.slice (some ⟨R, 0, none⟩) k (loose 6)) (.slice (some ⟨R, (k + 1) * 6, none⟩) 0 cc) (G2 ++ X) = some (.slice (some ⟨R, 0, none⟩) k (loose 6), G2 ++ X) := fun X dest cc => append_none (by decide) (.inr ⟨_, rfl⟩) (by unfold maxBytes; omega) (by omega) (by unfold loose; omega) (.inr ⟨_, rfl⟩)
        have hrk : r.take k ++ r.drop (k + 1) = r.take k := by rw [List.drop_eq_nil_of_le (by omega), List.append_nil]
        rw [hrk] at hpr
        have hrkl : (r.take k).length = k := by rw [List.length_take]; omega
        simp only [n46, r46, g0, g1, g2, g11, g12, g13, g14, g16, g17, hil, encO, c6, hldj, hidx, encC, happ1, happ2, hr1, hr2, hwk, aSliceS, bounds_V, bv_010, bv_100, nat_nn, Int.toNat_natCast, hk1, hk2, hm, hnn, Nat.zero_mul, Nat.sub_zero, SB, Nat.reduceLT, callee, aOp, ne_eq, Nat.reduceEqDiff, aBin, aUn, if_true, if_false, reduceCtorEq, frame0, place, notTuple, Nat.reduceAdd, Nat.reduceLeDiff, resVal, dite_true, dite_false, Int.reduceEq, Int.reduceLT, Int.reduceLE]
        refine hN rest _ _ ⟨dn ++ [x], r.take k, R, some ⟨G.length + 4, 0, none⟩, loose 3, some ⟨G.length + 2, 0, none⟩, loose 1, hdd, hpr, (by simp only [g0, upd_same, upd_ne, ne_eq, Nat.reduceEqDiff, not_false_eq_true, frame0, List.getD_cons_zero, List.getD_cons_succ]), (by simp only [g1, upd_same, upd_ne, ne_eq, Nat.reduceEqDiff, not_false_eq_true, frame0, List.getD_cons_zero, List.getD_cons_succ]), (by simp only [g2, upd_same, upd_ne, ne_eq, Nat.reduceEqDiff, not_false_eq_true, frame0, List.getD_cons_zero, List.getD_cons_succ]), (by simp only [hrkl, upd_same, upd_ne, ne_eq, Nat.reduceEqDiff, not_false_eq_true, frame0, List.getD_cons_zero, List.getD_cons_succ]), ?_, ?_, hEE.app, ⟨cs, ?_, hRl, ?_, ?_⟩, Own.new ?_ (by omega), Own.new ?_ (by omega), ?_, ?_, ?_, ?_⟩ (by simp)
        · rw [List.length_append]; exact (by simp only [List.length_singleton, upd_same, upd_ne, ne_eq, Nat.reduceEqDiff, not_false_eq_true, frame0, List.getD_cons_zero, List.getD_cons_succ])
        · rw [hpn', List.length_append]; exact (by simp only [List.length_singleton, upd_same, upd_ne, ne_eq, Nat.reduceEqDiff, not_false_eq_true, frame0, List.getD_cons_zero, List.getD_cons_succ])
        · rw [hget_old (by omega)]; exact hRc
        · rw [hrkl]; exact htake
        · rw [hrkl]; omega
        · rw [hr2.2.1, hgo]; simp only [List.getD_cons_succ, List.getD_cons_zero]
        · rw [hr2.2.1, hpn']; simp only [List.getD_cons_succ, List.getD_cons_zero]
        · intro a h; cases h; simp only; omega
        · intro a h; cases h; simp only; omega
        · intro a b h h'; cases h; cases h'; simp only; omega
        · rw [hpn']; simp only [List.length_append, List.length_cons, List.length_nil]; omega
      · obtain ⟨G3, hset, _, hM3⟩ := mut_set (show R < G2.length by omega) .dead
        have hr3 := len_rules (hM3.len.trans hl2)
        have hcc : ∀ (X : Heap) dest cc, aAppend lim dest 6 48 false (.slice (some ⟨R, 0, none⟩) k (loose 6)) (.slice (some ⟨R, (k + 1) * 6, none⟩) (r.length - (k + 1)) cc) (G2 ++ X) =
            some (.slice (some ⟨(place dest (.cells false ((r.take k ++ r.drop (k + 1)).flatMap encC)) (G3 ++ X)).1, 0, none⟩) (r.length - 1) (loose 6), (place dest (.cells false ((r.take k ++ r.drop (k + 1)).flatMap encC)) (G3 ++ X)).2) := by
          intro X dest cc
          rw [append_cut (cs := cs) (lim := lim) (bytes := 48) (n := k) (m := r.length - (k + 1)) (o := (k + 1) * 6) (e := 6) (R := R) (by rw [hget_old (by omega)]; exact hRc) (by omega) (by decide) hm (by omega) (by omega) (by unfold maxBytes; omega) (by omega), hcut, hset, show k + (r.length - (k + 1)) = r.length - 1 by omega]
        have hrl' : (r.take k ++ r.drop (k + 1)).length = r.length - 1 := by rw [List.length_append, List.length_take, List.length_drop]; omega
        generalize r.take k ++ r.drop (k + 1) = r' at *
        simp only [n46, r46, g0, g1, g2, g11, g12, g13, g14, g16, g17, hil, encO, c6, hldj, hidx, encC, happ1, happ2, hr1, hr2, hr3, hwk, aSliceS, bounds_V, bv_010, bv_100, nat_nn, Int.toNat_natCast, hk1, hk2, hcc, Nat.zero_mul, Nat.sub_zero, SB, Nat.reduceLT, callee, aOp, ne_eq, Nat.reduceEqDiff, aBin, aUn, if_true, if_false, reduceCtorEq, frame0, place, notTuple, Nat.reduceAdd, Nat.reduceLeDiff, resVal, dite_true, dite_false, Int.reduceEq, Int.reduceLT, Int.reduceLE]
        have hE3 : Ext H G3 := hM3.ext hEE (by omega)
        refine hN rest _ _ ⟨dn ++ [x], r', G.length + 5, some ⟨G.length + 4, 0, none⟩, loose 3, some ⟨G.length + 2, 0, none⟩, loose 1, hdd, hpr, (by simp only [g0, upd_same, upd_ne, ne_eq, Nat.reduceEqDiff, not_false_eq_true, frame0, List.getD_cons_zero, List.getD_cons_succ]), (by simp only [g1, upd_same, upd_ne, ne_eq, Nat.reduceEqDiff, not_false_eq_true, frame0, List.getD_cons_zero, List.getD_cons_succ]), (by simp only [g2, upd_same, upd_ne, ne_eq, Nat.reduceEqDiff, not_false_eq_true, frame0, List.getD_cons_zero, List.getD_cons_succ]), (by simp only [hrl', upd_same, upd_ne, ne_eq, Nat.reduceEqDiff, not_false_eq_true, frame0, List.getD_cons_zero, List.getD_cons_succ]), ?_, ?_, hE3.app, ⟨r'.flatMap encC, ?_, by omega, ?_, ?_⟩, Own.new ?_ (by omega), Own.new ?_ (by omega), ?_, ?_, ?_, ?_⟩ (by simp)
        · rw [List.length_append]; exact (by simp only [List.length_singleton, upd_same, upd_ne, ne_eq, Nat.reduceEqDiff, not_false_eq_true, frame0, List.getD_cons_zero, List.getD_cons_succ])
        · rw [hpn', List.length_append]; exact (by simp only [List.length_singleton, upd_same, upd_ne, ne_eq, Nat.reduceEqDiff, not_false_eq_true, frame0, List.getD_cons_zero, List.getD_cons_succ])
        · rw [hr3.2.1]; simp only [List.getD_cons_succ, List.getD_cons_zero]
        · rw [List.take_of_length_le]; rw [flat_len encC_len]; exact Nat.le_refl _
        · rw [flat_len encC_len]; exact Nat.le_refl _
        · rw [hr3.2.1, hgo]; simp only [List.getD_cons_succ, List.getD_cons_zero]
        · rw [hr3.2.1, hpn']; simp only [List.getD_cons_succ, List.getD_cons_zero]
        · intro a h; cases h; simp only; omega
        · intro a h; cases h; simp only; omega
        · intro a b h h'; cases h; cases h'; simp only; omega
        · rw [hpn']; simp only [List.length_append, List.length_cons, List.length_nil]; omega
    · rw [if_neg c6] at hpn'
      obtain ⟨G2, R2, v1, v2, hM2, hE2, happ2⟩ := hO.push1 (lim' := lim) (bytes := 24) hlim encO_len (by decide) o (by unfold maxBytes; omega) (by omega)
      rw [hgl] at happ2
      have hRR2 : R ≠ R2 := by
        cases hp12 : p12 with
        | none => rw [v1 hp12]; omega
        | some b => rw [v2 b hp12]; exact fun e => a1 b hp12 e.symm
      have hne2 : ∀ a, p13 = some a → a.block ≠ R2 := by
        intro a ha
        cases hp12 : p12 with
        | none => rw [v1 hp12]; have := hR13 a ha; omega
        | some b => rw [v2 b hp12]; exact fun e => a3 b a hp12 ha e.symm
      have hI2 := hI.mut hM2 hne2
      have hl2 : G2.length = G.length := hM2.len
      have hRc : hget G2 R = .cells false cs := by rw [hM2.other R hRR2]; exact hR
      have hr2 := len_rules hl2
      simp only [encO] at happ2
      have hEE : Ext H G2 := hE2 H hE (Nat.le_refl _)
      by_cases hm : r.length - (k + 1) = 0
      · have hnn : ∀ (X : Heap) dest cc, aAppend lim dest 6 48 false (.slice (some ⟨R, 0, none⟩) k (loose 6)) (.slice (some ⟨R, (k + 1) * 6, none⟩) 0 cc) (G2 ++ X) = some (.slice (some ⟨R, 0, none⟩) k (loose 6), G2 ++ X) := fun X dest cc => append_none (by decide) (.inr ⟨_, rfl⟩) (by unfold maxBytes; omega) (by omega) (by unfold loose; omega) (.inr ⟨_, rfl⟩)
        have hrk : r.take k ++ r.drop (k + 1) = r.take k := by rw [List.drop_eq_nil_of_le (by omega), List.append_nil]
        rw [hrk] at hpr
        have hrkl : (r.take k).length = k := by rw [List.length_take]; omega
        simp only [n46, r46, g0, g1, g2, g11, g12, g13, g14, g16, g17, hil, encO, c6, hldj, hidx, encC, happ2, hr2, hwk, aSliceS, bounds_V, bv_010, bv_100, nat_nn, Int.toNat_natCast, hk1, hk2, hm, hnn, Nat.zero_mul, Nat.sub_zero, SB, Nat.reduceLT, callee, aOp, ne_eq, Nat.reduceEqDiff, aBin, aUn, if_true, if_false, reduceCtorEq, frame0, place, notTuple, Nat.reduceAdd, Nat.reduceLeDiff, resVal, dite_true, dite_false, Int.reduceEq, Int.reduceLT, Int.reduceLE]
        refine hN rest _ _ ⟨dn ++ [x], r.take k, R, some ⟨G.length + 2, 0, none⟩, loose 3, p13, k13, hdd, hpr, (by simp only [g0, upd_same, upd_ne, ne_eq, Nat.reduceEqDiff, not_false_eq_true, frame0, List.getD_cons_zero, List.getD_cons_succ]), (by simp only [g1, upd_same, upd_ne, ne_eq, Nat.reduceEqDiff, not_false_eq_true, frame0, List.getD_cons_zero, List.getD_cons_succ]), (by simp only [g2, upd_same, upd_ne, ne_eq, Nat.reduceEqDiff, not_false_eq_true, frame0, List.getD_cons_zero, List.getD_cons_succ]), (by simp only [hrkl, upd_same, upd_ne, ne_eq, Nat.reduceEqDiff, not_false_eq_true, frame0, List.getD_cons_zero, List.getD_cons_succ]), ?_, ?_, hEE.app, ⟨cs, ?_, hRl, ?_, ?_⟩, Own.new ?_ (by omega), by rw [hpn']; exact hI2.app _, ?_, a2, ?_, ?_⟩ (by simp)
        · rw [List.length_append]; exact (by simp only [List.length_singleton, upd_same, upd_ne, ne_eq, Nat.reduceEqDiff, not_false_eq_true, frame0, List.getD_cons_zero, List.getD_cons_succ])
        · rw [hpn']; exact (by simp only [g13, upd_same, upd_ne, ne_eq, Nat.reduceEqDiff, not_false_eq_true, frame0, List.getD_cons_zero, List.getD_cons_succ])
        · rw [hget_old (by omega)]; exact hRc
        · rw [hrkl]; exact htake
        · rw [hrkl]; omega
        · rw [hr2.2.1, hgo]; simp only [List.getD_cons_succ, List.getD_cons_zero]
        · intro a h; cases h; simp only; omega
        · intro a b h h'; cases h; have := hR13 b h'; simp only; omega
        · rw [hpn']; simp only [List.length_append, List.length_cons, List.length_nil]; omega
      · obtain ⟨G3, hset, _, hM3⟩ := mut_set (show R < G2.length by omega) .dead
        have hr3 := len_rules (hM3.len.trans hl2)
        have hcc : ∀ (X : Heap) dest cc, aAppend lim dest 6 48 false (.slice (some ⟨R, 0, none⟩) k (loose 6)) (.slice (some ⟨R, (k + 1) * 6, none⟩) (r.length - (k + 1)) cc) (G2 ++ X) =
            some (.slice (some ⟨(place dest (.cells false ((r.take k ++ r.drop (k + 1)).flatMap encC)) (G3 ++ X)).1, 0, none⟩) (r.length - 1) (loose 6), (place dest (.cells false ((r.take k ++ r.drop (k + 1)).flatMap encC)) (G3 ++ X)).2) := by
          intro X dest cc
          rw [append_cut (cs := cs) (lim := lim) (bytes := 48) (n := k) (m := r.length - (k + 1)) (o := (k + 1) * 6) (e := 6) (R := R) (by rw [hget_old (by omega)]; exact hRc) (by omega) (by decide) hm (by omega) (by omega) (by unfold maxBytes; omega) (by omega), hcut, hset, show k + (r.length - (k + 1)) = r.length - 1 by omega]
        have hrl' : (r.take k ++ r.drop (k + 1)).length = r.length - 1 := by rw [List.length_append, List.length_take, List.length_drop]; omega
        generalize r.take k ++ r.drop (k + 1) = r' at *
        simp only [n46, r46, g0, g1, g2, g11, g12, g13, g14, g16, g17, hil, encO, c6, hldj, hidx, encC, happ2, hr2, hr3, hwk, aSliceS, bounds_V, bv_010, bv_100, nat_nn, Int.toNat_natCast, hk1, hk2, hcc, Nat.zero_mul, Nat.sub_zero, SB, Nat.reduceLT, callee, aOp, ne_eq, Nat.reduceEqDiff, aBin, aUn, if_true, if_false, reduceCtorEq, frame0, place, notTuple, Nat.reduceAdd, Nat.reduceLeDiff, resVal, dite_true, dite_false, Int.reduceEq, Int.reduceLT, Int.reduceLE]
        have hE3 : Ext H G3 := hM3.ext hEE (by omega)
        refine hN rest _ _ ⟨dn ++ [x], r', G.length + 3, some ⟨G.length + 2, 0, none⟩, loose 3, p13, k13, hdd, hpr, (by simp only [g0, upd_same, upd_ne, ne_eq, Nat.reduceEqDiff, not_false_eq_true, frame0, List.getD_cons_zero, List.getD_cons_succ]), (by simp only [g1, upd_same, upd_ne, ne_eq, Nat.reduceEqDiff, not_false_eq_true, frame0, List.getD_cons_zero, List.getD_cons_succ]), (by simp only [g2, upd_same, upd_ne, ne_eq, Nat.reduceEqDiff, not_false_eq_true, frame0, List.getD_cons_zero, List.getD_cons_succ]), (by simp only [hrl', upd_same, upd_ne, ne_eq, Nat.reduceEqDiff, not_false_eq_true, frame0, List.getD_cons_zero, List.getD_cons_succ]), ?_, ?_, hE3.app, ⟨r'.flatMap encC, ?_, by omega, ?_, ?_⟩, Own.new ?_ (by omega), by rw [hpn']; exact (hI2.mut hM3 a2).app _, ?_, ?_, ?_, ?_⟩ (by simp)
        · rw [List.length_append]; exact (by simp only [List.length_singleton, upd_same, upd_ne, ne_eq, Nat.reduceEqDiff, not_false_eq_true, frame0, List.getD_cons_zero, List.getD_cons_succ])
        · rw [hpn']; exact (by simp only [g13, upd_same, upd_ne, ne_eq, Nat.reduceEqDiff, not_false_eq_true, frame0, List.getD_cons_zero, List.getD_cons_succ])
        · rw [hr3.2.1]; simp only [List.getD_cons_succ, List.getD_cons_zero]
        · rw [List.take_of_length_le]; rw [flat_len encC_len]; exact Nat.le_refl _
        · rw [flat_len encC_len]; exact Nat.le_refl _
        · rw [hr3.2.1, hgo]; simp only [List.getD_cons_succ, List.getD_cons_zero]
        · intro a h; cases h; simp only; omega
        · intro a h; have := hR13 a h; omega
        · intro a b h h'; cases h; have := hR13 b h'; simp only; omega
        · rw [hpn']; simp only [List.length_append, List.length_cons, List.length_nil]; omega
  obtain ⟨k, v, H', hx, ⟨Y, rfl⟩, p', k', rfl, hs'⟩ := key
  exact ⟨p', k', Y, hs', fun Q => CallR.det hx⟩
end Go.Proofs.Ytlmoijifgbkapaa.Fn
namespace Go.Proofs.Ytlmoijifgbkapaa.Fn
open Go.AM Go.AM.Sym
set_option maxRecDepth 100000
set_option linter.unusedVariables false
set_option linter.unusedSimpArgs false
set_option maxHeartbeats 4000000

theorem tells_ok {mp : Bool} {lim : Nat} {Q : Value → Heap → Prop} {pl pt ps pc' : Option Addr} {l : List Std} {t : List Trm} {s : List Snt} {c : List Clm} {k1 k2 k3 k4 : Nat} {H : Heap} (hl : Sl H encS 4 pl l) (ht : Sl H encT 7 pt t) (hs : Sl H encN 6 ps s) (hc : Sl H encC 6 pc' c) (nl : l.length ≤ 2001) (nt : t.length ≤ 2001) (ns : s.length ≤ 2001) (nc : c.length ≤ 2001) (ul : ∀ x ∈ l, 0 ≤ x.cls) (ut : ∀ x ∈ t, 0 ≤ x.cls) (us : ∀ x ∈ s, 0 ≤ x.cls) (uc : ∀ x ∈ c, 0 ≤ x.kind ∧ x.kind < 256) (hpn : c ≠ [] → pc' ≠ none) : CallR E mp lim 18 [.slice pl l.length k1, .slice pt t.length k2, .slice ps s.length k3, .slice pc' c.length k4] H Q = Q (.bool true) H := by
  refine pc (by decide) e18 rfl rfl ?_
  rw [b18, c18]
  -- the calls that make lists
  have o42 : ∀ G : Heap, Ext H G → ∃ p k G', Ext G G' ∧ Sl G' encT 7 p t ∧ ∀ Q, CallR E false H.length 42 [.slice pt t.length k2] (G ++ []) Q = Q (.slice p t.length k) (G' ++ []) := by
    intro G hE
    obtain ⟨p, k, Y, h1, h2⟩ := otherTerms_ok (lim := H.length) (cap := k2) (hE.sl ht) nt hE.len
    exact ⟨p, k, G ++ Y, ⟨Y, rfl⟩, h1, fun Q => by rw [List.append_nil, List.append_nil]; exact h2 Q⟩
  have o45 : ∀ G : Heap, Ext H G → ∃ p k G', Ext G G' ∧ Sl G' encC 6 p c ∧ ∀ Q, CallR E false H.length 45 [.slice pc' c.length k4] (G ++ []) Q = Q (.slice p c.length k) (G' ++ []) := by
    intro G hE
    obtain ⟨p, k, Y, h1, h2⟩ := others_ok (lim := H.length) (cap := k4) (hE.sl hc) nc hE.len
    exact ⟨p, k, G ++ Y, ⟨Y, rfl⟩, h1, fun Q => by rw [List.append_nil, List.append_nil]; exact h2 Q⟩
  obtain ⟨q1, j1, G1, hE1, hq1, hc1⟩ := o42 H Ext.refl
  obtain ⟨q2, j2, G2, hE2', hq2, hc2⟩ := o45 G1 hE1
  have hE2 := hE1.trans hE2'
  have f11 := fun mp lim X Q => Right_ok mp lim (cap := k1) (Q := Q) (hl.app X) (by omega)
  have f12 := fun mp lim X Q => refRight_ok mp lim (cap := k1) (Q := Q) (hl.app X) (by omega) ul
  have f26 := fun mp lim X Q => RightTerms_ok mp lim (cap := k2) (Q := Q) (ht.app X) (by omega)
  have f41 := fun mp lim X Q => refRightTerms_ok mp lim (cap := j1) (Q := Q) (hq1.app X) (by omega) ut
  have f27 := fun mp lim X Q => RightSent_ok mp lim (cap := k3) (Q := Q) ((hE1.sl hs).app X) (by omega)
  have f43 := fun mp lim X Q => refRightSent_ok mp lim (cap := k3) (Q := Q) ((hE1.sl hs).app X) (by omega) us
  have f28 := fun mp lim X Q => RightClaims_ok mp lim (cap := k4) (Q := Q) ((hE1.sl hc).app X) (by omega)
  have f44 := fun mp lim X Q => refRightClaims_ok mp lim (cap := j2) (Q := Q) (hq2.app X) (by omega) uc
  -- the second loop
  have loop2 : ∀ (fr : Nat → Value) (G : Heap), fr 0 = .slice pl l.length k1 → fr 1 = .slice pt t.length k2 → fr 2 = .slice ps s.length k3 → fr 3 = .slice pc' c.length k4 → Ext H G →
      Ret E a18 H.length (.code (.seq (.ops [i 14 (.mov (k (.int .i64 0)))]) (.block 2 (.loop l18_1))) :: .code (.seq (.ops [i 8 (.mov (k (.bool true)))]) .ret) :: []) fr (G ++ []) fun v' _ => v' = .bool true := by
    intro fr G g0 g1 g2 g3 hE
    simp only [n18, r18, SB, Nat.reduceLT, callee, aOp, ne_eq, Nat.reduceEqDiff, aBin, aUn, if_true, if_false, reduceCtorEq, frame0, place, notTuple, Nat.reduceAdd, Nat.reduceLeDiff, resVal, dite_true, dite_false, Int.reduceEq, Int.reduceLT, Int.reduceLE]
    refine Ret_rounds (fun i => c.length - i) (fun i fr G => i ≤ c.length ∧ fr 0 = .slice pl l.length k1 ∧ fr 1 = .slice pt t.length k2 ∧ fr 2 = .slice ps s.length k3 ∧ fr 3 = .slice pc' c.length k4 ∧ fr 14 = .int .i64 (i : Int) ∧ Ext H G) 0 ⟨Nat.zero_le _, (by simp only [g0, upd_same, upd_ne, ne_eq, Nat.reduceEqDiff, not_false_eq_true, frame0, List.getD_cons_zero, List.getD_cons_succ]), (by simp only [g1, upd_same, upd_ne, ne_eq, Nat.reduceEqDiff, not_false_eq_true, frame0, List.getD_cons_zero, List.getD_cons_succ]), (by simp only [g2, upd_same, upd_ne, ne_eq, Nat.reduceEqDiff, not_false_eq_true, frame0, List.getD_cons_zero, List.getD_cons_succ]), (by simp only [g3, upd_same, upd_ne, ne_eq, Nat.reduceEqDiff, not_false_eq_true, frame0, List.getD_cons_zero, List.getD_cons_succ]), by rfl, hE.app⟩ ?_
    clear g0 g1 g2 g3 hE
    intro i fr G ⟨hi, g0, g1, g2, g3, g14, hE⟩ hN
    rw [Ret_code l18_1.eq_1]
    refine Ret_pad ?_
    by_cases hlt : i < c.length
    case neg => simp only [n18, r18, g0, g1, g2, g3, g14, hlt, SB, Nat.reduceLT, callee, aOp, ne_eq, Nat.reduceEqDiff, aBin, aUn, if_true, if_false, reduceCtorEq, frame0, place, notTuple, Nat.reduceAdd, Nat.reduceLeDiff, resVal, dite_true, dite_false, Int.reduceEq, Int.reduceLT, Int.reduceLE]
    by_cases h4 : (i : Int) < 4
    case neg => simp only [n18, r18, g0, g1, g2, g3, g14, hlt, h4, SB, Nat.reduceLT, callee, aOp, ne_eq, Nat.reduceEqDiff, aBin, aUn, if_true, if_false, reduceCtorEq, frame0, place, notTuple, Nat.reduceAdd, Nat.reduceLeDiff, resVal, dite_true, dite_false, Int.reduceEq, Int.reduceLT, Int.reduceLE]
    obtain ⟨q3, j3, G3, hE3', hq3, hc3⟩ := o42 (G ++ [.cells false (if checkS l t s [gt c i] = 0 then encO ((gt c i).id, (decideS l t s (gt c i)).1, (decideS l t s (gt c i)).2) else encO (0, 0, 0))]) hE.app
    obtain ⟨q4, j4, G4, hE4', hq4, hc4⟩ := o45 G3 (hE.app.trans hE3')
    have hE3 := hE.app.trans hE3'
    have hE4 := hE3.trans hE4'
    have hg := hE.sl hc
    have hld := fun X => (hg.app X).loadCells encC_len hlt
    have hidx := fun c (k : IntKind) (H1 : Heap) => hg.idx (c := c) (k := k) (H1 := H1) hlt
    have hld4 := fun X => (hq4.app X).loadCells encC_len hlt
    have hidx4 := fun c (k : IntKind) (H1 : Heap) => hq4.idx (c := c) (k := k) (H1 := H1) hlt
    have hw1 : IntKind.i64.wrap ((i : Int) + 1) = ((i + 1 : Nat) : Int) := wrap_nat (by omega)
    have hLG := hE.len
    have hLG4 := hE4.len
    have f15 := fun mp lim X Q => Decide_ok (mp := mp) (lim := lim) (k1 := k1) (k2 := k2) (k3 := k3) (c := gt c i) (Q := Q) ((hE.sl hl).app X) ((hE.sl ht).app X) ((hE.sl hs).app X) (by omega) (by omega) (by omega)
    have f48 := fun mp lim X Q => refDecide_ok (mp := mp) (lim := lim) (k1 := k1) (k2 := j3) (k3 := k3) (c := gt c i) (Q := Q) ((hE4.sl hl).app X) ((hE4'.sl hq3).app X) ((hE4.sl hs).app X) (by omega) (by omega) (by omega) ul ut us (uc _ (gt_mem hlt))
    have hce : ∀ X, hget (G4 ++ X) G.length = .cells false (if checkS l t s [gt c i] = 0 then encO ((gt c i).id, (decideS l t s (gt c i)).1, (decideS l t s (gt c i)).2) else encO (0, 0, 0)) := fun X => (hE3'.trans hE4').app.cells hget_new0
    rw [List.append_assoc, List.append_nil] at hc3
    by_cases hck : checkS l t s [gt c i] = 0
    · simp only [hck, if_true, encO] at hce hc3
      simp only [n18, r18, g0, g1, g2, g3, g14, hlt, h4, hidx, hld, encC, f15, hck, hLG, hc3, hc4, hidx4, hld4, f48, hce, hLG4, same_ok, and_self, hw1, SB, Nat.reduceLT, callee, aOp, ne_eq, Nat.reduceEqDiff, aBin, aUn, if_true, if_false, reduceCtorEq, frame0, place, notTuple, Nat.reduceAdd, Nat.reduceLeDiff, resVal, dite_true, dite_false, Int.reduceEq, Int.reduceLT, Int.reduceLE]
      exact hN (i + 1) _ _ ⟨by omega, (by simp only [g0, upd_same, upd_ne, ne_eq, Nat.reduceEqDiff, not_false_eq_true, frame0, List.getD_cons_zero, List.getD_cons_succ]), (by simp only [g1, upd_same, upd_ne, ne_eq, Nat.reduceEqDiff, not_false_eq_true, frame0, List.getD_cons_zero, List.getD_cons_succ]), (by simp only [g2, upd_same, upd_ne, ne_eq, Nat.reduceEqDiff, not_false_eq_true, frame0, List.getD_cons_zero, List.getD_cons_succ]), (by simp only [g3, upd_same, upd_ne, ne_eq, Nat.reduceEqDiff, not_false_eq_true, frame0, List.getD_cons_zero, List.getD_cons_succ]), (by simp only [upd_same, upd_ne, ne_eq, Nat.reduceEqDiff, not_false_eq_true, frame0, List.getD_cons_zero, List.getD_cons_succ]), hE4.app⟩ (by omega)
    · simp only [hck, if_false, encO] at hce hc3
      simp only [n18, r18, g0, g1, g2, g3, g14, hlt, h4, hidx, hld, encC, f15, hck, hLG, hc3, hc4, hidx4, hld4, f48, hce, hLG4, same_ok, and_self, hw1, SB, Nat.reduceLT, callee, aOp, ne_eq, Nat.reduceEqDiff, aBin, aUn, if_true, if_false, reduceCtorEq, frame0, place, notTuple, Nat.reduceAdd, Nat.reduceLeDiff, resVal, dite_true, dite_false, Int.reduceEq, Int.reduceLT, Int.reduceLE]
      exact hN (i + 1) _ _ ⟨by omega, (by simp only [g0, upd_same, upd_ne, ne_eq, Nat.reduceEqDiff, not_false_eq_true, frame0, List.getD_cons_zero, List.getD_cons_succ]), (by simp only [g1, upd_same, upd_ne, ne_eq, Nat.reduceEqDiff, not_false_eq_true, frame0, List.getD_cons_zero, List.getD_cons_succ]), (by simp only [g2, upd_same, upd_ne, ne_eq, Nat.reduceEqDiff, not_false_eq_true, frame0, List.getD_cons_zero, List.getD_cons_succ]), (by simp only [g3, upd_same, upd_ne, ne_eq, Nat.reduceEqDiff, not_false_eq_true, frame0, List.getD_cons_zero, List.getD_cons_succ]), (by simp only [upd_same, upd_ne, ne_eq, Nat.reduceEqDiff, not_false_eq_true, frame0, List.getD_cons_zero, List.getD_cons_succ]), hE4.app⟩ (by omega)
  generalize hL2 : (ACode.seq (.ops [i 14 (.mov (k (.int .i64 0)))]) (.block 2 (.loop l18_1))) = L2 at loop2
  by_cases hck : checkS l t s c = 0
  · obtain ⟨d, po, Y3, hp, hlt, hout, hse⟩ := Settle_ok (lim := H.length) (k1 := k1) (k2 := k2) (k3 := k3) (k4 := k4) (hE2.sl hl) (hE2.sl ht) (hE2.sl hs) (hE2.sl hc) (by omega) (by omega) (by omega) (by omega) hE2.len hck hpn
    obtain ⟨G3, hG3⟩ : ∃ G, G = G2 ++ Y3 := ⟨_, rfl⟩
    have hE3' : Ext G2 G3 := ⟨Y3, hG3⟩
    have hE3 := hE2.trans hE3'
    rw [← hG3] at hout
    have hse' : ∀ Q, CallR E false H.length 25 [.slice pl l.length k1, .slice pt t.length k2, .slice ps s.length k3, .slice pc' c.length k4] (G2 ++ []) Q = Q (.tuple #[.slice po c.length c.length, .int .i64 0]) (G3 ++ []) := fun Q => by rw [List.append_nil, List.append_nil, hG3]; exact hse Q
    obtain ⟨q3, j3, G4, hE4', hq3, hc3⟩ := o42 G3 hE3
    have hE4 := hE3.trans hE4'
    obtain ⟨q4, j4, G5, hE5', hq4, hc4⟩ := o45 G4 hE4
    have hE5 := hE4.trans hE5'
    obtain ⟨po2, kk, Y6, hout2, hse2⟩ := refSettle_run (lim := H.length) (k1 := k1) (k2 := j3) (k3 := k3) (k4 := j4) (hE5.sl hl) (hE5'.sl hq3) (hE5.sl hs) hq4 (by omega) (by omega) (by omega) (by omega) ul ut us uc hE5.len hck (by
      intro hne h; rw [h] at hq4; exact hne hq4) hp hlt
    obtain ⟨G6, hG6⟩ : ∃ G, G = G5 ++ Y6 := ⟨_, rfl⟩
    have hE6' : Ext G5 G6 := ⟨Y6, hG6⟩
    have hE6 := hE5.trans hE6'
    rw [← hG6] at hout2
    have hse2' : ∀ Q, CallR E false H.length 46 [.slice pl l.length k1, .slice q3 t.length j3, .slice ps s.length k3, .slice q4 c.length j4] (G5 ++ []) Q = Q (.tuple #[.slice po2 c.length kk, .int .i64 0]) (G6 ++ []) := fun Q => by rw [List.append_nil, List.append_nil, hG6]; exact hse2 Q
    have hdl : d.length = c.length := hp.length_eq
    have hgl : (goO l t s [] d).length = c.length := by rw [goO_len, hdl]
    simp only [n18, r18, f11, f12, f26, f41, f27, f43, f28, f44, hc1, hc2, aEq, bne_self_eq_false, beq_self_eq_true, hse', hc3, hc4, hse2', hL2, SB, Nat.reduceLT, callee, aOp, ne_eq, Nat.reduceEqDiff, aBin, aUn, if_true, if_false, reduceCtorEq, frame0, place, notTuple, Nat.reduceAdd, Nat.reduceLeDiff, resVal, dite_true, dite_false, Int.reduceEq, Int.reduceLT, Int.reduceLE]
    refine Ret_rounds (fun i => c.length - i) (fun i fr G => i ≤ c.length ∧ fr 0 = .slice pl l.length k1 ∧ fr 1 = .slice pt t.length k2 ∧ fr 2 = .slice ps s.length k3 ∧ fr 3 = .slice pc' c.length k4 ∧ fr 9 = .slice po c.length c.length ∧ fr 11 = .slice po2 c.length kk ∧ fr 13 = .int .i64 (i : Int) ∧ Ext G6 G) 0 ⟨Nat.zero_le _, (by simp only [upd_same, upd_ne, ne_eq, Nat.reduceEqDiff, not_false_eq_true, frame0, List.getD_cons_zero, List.getD_cons_succ]), (by simp only [upd_same, upd_ne, ne_eq, Nat.reduceEqDiff, not_false_eq_true, frame0, List.getD_cons_zero, List.getD_cons_succ]), (by simp only [upd_same, upd_ne, ne_eq, Nat.reduceEqDiff, not_false_eq_true, frame0, List.getD_cons_zero, List.getD_cons_succ]), (by simp only [upd_same, upd_ne, ne_eq, Nat.reduceEqDiff, not_false_eq_true, frame0, List.getD_cons_zero, List.getD_cons_succ]), (by simp only [upd_same, upd_ne, ne_eq, Nat.reduceEqDiff, not_false_eq_true, frame0, List.getD_cons_zero, List.getD_cons_succ]), (by simp only [upd_same, upd_ne, ne_eq, Nat.reduceEqDiff, not_false_eq_true, frame0, List.getD_cons_zero, List.getD_cons_succ]), by rfl, Ext.refl.app⟩ ?_
    intro i fr G ⟨hi, g0, g1, g2, g3, g9, g11, g13, hE⟩ hN
    rw [Ret_code l18_2.eq_1]
    refine Ret_pad ?_
    by_cases hlt' : i < c.length
    · have hio : i < (goO l t s [] d).length := by omega
      have ho1 := ((hE4'.trans hE5').trans (hE6'.trans hE)).sl hout
      have ho2 := hE.sl hout2
      have hidx1 : ∀ k (kk : IntKind) (H1 : Heap), idxK 3 (.slice po c.length k) (.int kk (i : Int)) H1 = some (.pointer (some (elt po 3 i)), H1) := fun k kk H1 => by rw [← hgl]; exact ho1.idx hio
      have hidx2 : ∀ k (kk : IntKind) (H1 : Heap), idxK 3 (.slice po2 c.length k) (.int kk (i : Int)) H1 = some (.pointer (some (elt po2 3 i)), H1) := fun k kk H1 => by rw [← hgl]; exact ho2.idx hio
      have hld1 := fun X => (ho1.app X).loadCells encO_len hio
      have hld2 := fun X => (ho2.app X).loadCells encO_len hio
      have hw1 : IntKind.i64.wrap ((i : Int) + 1) = ((i + 1 : Nat) : Int) := wrap_nat (by omega)
      simp only [n18, r18, g0, g1, g2, g3, g9, g11, g13, hlt', hidx1, hidx2, hld1, hld2, encO, same_ok, and_self, hw1, SB, Nat.reduceLT, callee, aOp, ne_eq, Nat.reduceEqDiff, aBin, aUn, if_true, if_false, reduceCtorEq, frame0, place, notTuple, Nat.reduceAdd, Nat.reduceLeDiff, resVal, dite_true, dite_false, Int.reduceEq, Int.reduceLT, Int.reduceLE]
      exact hN (i + 1) _ _ ⟨by omega, (by simp only [g0, upd_same, upd_ne, ne_eq, Nat.reduceEqDiff, not_false_eq_true, frame0, List.getD_cons_zero, List.getD_cons_succ]), (by simp only [g1, upd_same, upd_ne, ne_eq, Nat.reduceEqDiff, not_false_eq_true, frame0, List.getD_cons_zero, List.getD_cons_succ]), (by simp only [g2, upd_same, upd_ne, ne_eq, Nat.reduceEqDiff, not_false_eq_true, frame0, List.getD_cons_zero, List.getD_cons_succ]), (by simp only [g3, upd_same, upd_ne, ne_eq, Nat.reduceEqDiff, not_false_eq_true, frame0, List.getD_cons_zero, List.getD_cons_succ]), (by simp only [g9, upd_same, upd_ne, ne_eq, Nat.reduceEqDiff, not_false_eq_true, frame0, List.getD_cons_zero, List.getD_cons_succ]), (by simp only [g11, upd_same, upd_ne, ne_eq, Nat.reduceEqDiff, not_false_eq_true, frame0, List.getD_cons_zero, List.getD_cons_succ]), (by simp only [upd_same, upd_ne, ne_eq, Nat.reduceEqDiff, not_false_eq_true, frame0, List.getD_cons_zero, List.getD_cons_succ]), hE.app⟩ (by omega)
    · simp only [n18, r18, g0, g1, g2, g3, g9, g11, g13, hlt', SB, Nat.reduceLT, callee, aOp, ne_eq, Nat.reduceEqDiff, aBin, aUn, if_true, if_false, reduceCtorEq, frame0, place, notTuple, Nat.reduceAdd, Nat.reduceLeDiff, resVal, dite_true, dite_false, Int.reduceEq, Int.reduceLT, Int.reduceLE]
      exact loop2 _ _ (by simp only [g0, upd_same, upd_ne, ne_eq, Nat.reduceEqDiff, not_false_eq_true, frame0, List.getD_cons_zero, List.getD_cons_succ]) (by simp only [g1, upd_same, upd_ne, ne_eq, Nat.reduceEqDiff, not_false_eq_true, frame0, List.getD_cons_zero, List.getD_cons_succ]) (by simp only [g2, upd_same, upd_ne, ne_eq, Nat.reduceEqDiff, not_false_eq_true, frame0, List.getD_cons_zero, List.getD_cons_succ]) (by simp only [g3, upd_same, upd_ne, ne_eq, Nat.reduceEqDiff, not_false_eq_true, frame0, List.getD_cons_zero, List.getD_cons_succ]) (hE6.trans hE)
  · have hse' : ∀ Q, CallR E false H.length 25 [.slice pl l.length k1, .slice pt t.length k2, .slice ps s.length k3, .slice pc' c.length k4] (G2 ++ []) Q = Q (.tuple #[.slice none 0 0, .int .i64 (checkS l t s c)]) (G2 ++ []) := fun Q => Settle_bad (lim := H.length) (k1 := k1) (k2 := k2) (k3 := k3) (k4 := k4) ((hE2.sl hl).app _) ((hE2.sl ht).app _) ((hE2.sl hs).app _) ((hE2.sl hc).app _) (by omega) (by omega) (by omega) (by omega) hck
    obtain ⟨q3, j3, G4, hE4', hq3, hc3⟩ := o42 G2 hE2
    have hE4 := hE2.trans hE4'
    obtain ⟨q4, j4, G5, hE5', hq4, hc4⟩ := o45 G4 hE4
    have hE5 := hE4.trans hE5'
    have hse2' : ∀ Q, CallR E false H.length 46 [.slice pl l.length k1, .slice q3 t.length j3, .slice ps s.length k3, .slice q4 c.length j4] (G5 ++ []) Q = Q (.tuple #[.slice none 0 0, .int .i64 (checkS l t s c)]) (G5 ++ []) := fun Q => refSettle_bad (lim := H.length) (k1 := k1) (k2 := j3) (k3 := k3) (k4 := j4) ((hE5.sl hl).app _) ((hE5'.sl hq3).app _) ((hE5.sl hs).app _) (hq4.app _) (by omega) (by omega) (by omega) (by omega) ul ut us uc hck
    simp only [n18, r18, f11, f12, f26, f41, f27, f43, f28, f44, hc1, hc2, aEq, bne_self_eq_false, beq_self_eq_true, hse', hc3, hc4, hse2', hL2, SB, Nat.reduceLT, callee, aOp, ne_eq, Nat.reduceEqDiff, aBin, aUn, if_true, if_false, reduceCtorEq, frame0, place, notTuple, Nat.reduceAdd, Nat.reduceLeDiff, resVal, dite_true, dite_false, Int.reduceEq, Int.reduceLT, Int.reduceLE]
    rw [Ret_loop, Ret_code l18_2.eq_1]
    simp only [n18, r18, SB, Nat.reduceLT, callee, aOp, ne_eq, Nat.reduceEqDiff, aBin, aUn, if_true, if_false, reduceCtorEq, frame0, place, notTuple, Nat.reduceAdd, Nat.reduceLeDiff, resVal, dite_true, dite_false, Int.reduceEq, Int.reduceLT, Int.reduceLE]
    exact loop2 _ _ (by simp only [upd_same, upd_ne, ne_eq, Nat.reduceEqDiff, not_false_eq_true, frame0, List.getD_cons_zero, List.getD_cons_succ]) (by simp only [upd_same, upd_ne, ne_eq, Nat.reduceEqDiff, not_false_eq_true, frame0, List.getD_cons_zero, List.getD_cons_succ]) (by simp only [upd_same, upd_ne, ne_eq, Nat.reduceEqDiff, not_false_eq_true, frame0, List.getD_cons_zero, List.getD_cons_succ]) (by simp only [upd_same, upd_ne, ne_eq, Nat.reduceEqDiff, not_false_eq_true, frame0, List.getD_cons_zero, List.getD_cons_succ]) hE5

theorem eqS {x : Std} : cellsEq [.int .u8, .int .i64, .int .i64, .int .i64] (encS x) (encS x) = some true := by simp [encS, cellsEq, cellEq]
theorem eqT {x : Trm} : cellsEq [.int .u8, .int .i64, .int .i64, .int .i64, .int .i64, .int .i64, .int .i64] (encT x) (encT x) = some true := by simp [encT, cellsEq, cellEq]
theorem eqN {x : Snt} : cellsEq [.int .i64, .int .u8, .int .i64, .int .i64, .int .i64, .int .i64] (encN x) (encN x) = some true := by simp [encN, cellsEq, cellEq]
theorem eqC {x : Clm} : cellsEq [.int .i64, .int .i64, .int .i64, .int .u8, .int .i64, .int .i64] (encC x) (encC x) = some true := by simp [encC, cellsEq, cellEq]
theorem aEq_agg {ks : List KK} {a b : List Value} : aEq (.agg ks) (.agg a.toArray) (.agg b.toArray) = cellsEq ks a b := rfl

theorem append_copy {α : Type} {lim e bytes c : Nat} {H : Heap} {enc : α → List Value} {p : Option Addr} {l : List α} (hs : Sl H enc e p l) (hp : l ≠ [] → p ≠ none) (h1 : e ≠ 0) (h2 : l.length * bytes ≤ maxBytes) (h3 : l.length < 2 ^ 62) (X : Heap) (b : Nat) :
    hget (H ++ X) b = .cells false [] → aAppend lim none e bytes false (.slice (some ⟨b, 0, none⟩) 0 0) (.slice p l.length c) (H ++ X) = if l = [] then some (.slice (some ⟨b, 0, none⟩) 0 0, H ++ X) else some (.slice (some ⟨H.length + X.length, 0, none⟩) l.length (loose e), H ++ (X ++ [.cells false (l.flatMap enc)])) := by
  intro hb
  split
  · rename_i h
    subst h
    exact append_none h1 (.inl rfl) (by omega) (by decide) (by decide) (by cases p with | none => exact .inl rfl | some a => exact .inr ⟨a, rfl⟩)
  · rename_i h
    rw [append_fresh hb (hs.app _) (hp h) (fun q => h (List.length_eq_zero_iff.1 q)) h1 h2 h3]
    simp
theorem ClaimTells_ok {mp : Bool} {lim : Nat} {Q : Value → Heap → Prop} {pl pt ps pc' : Option Addr} {l : List Std} {t : List Trm} {s : List Snt} {c : List Clm} {k1 k2 k3 k4 : Nat} {H : Heap} (hl : Sl H encS 4 pl l) (ht : Sl H encT 7 pt t) (hs : Sl H encN 6 ps s) (hc : Sl H encC 6 pc' c) (ul : ∀ x ∈ l, 0 ≤ x.cls) (ut : ∀ x ∈ t, 0 ≤ x.cls) (us : ∀ x ∈ s, 0 ≤ x.cls) (uc : ∀ x ∈ c, 0 ≤ x.kind ∧ x.kind < 256) (hpn : c ≠ [] → pc' ≠ none) (pnl : l ≠ [] → pl ≠ none) (pnt : t ≠ [] → pt ≠ none) (pns : s ≠ [] → ps ≠ none) :
    CallR E mp lim 6 [.slice pl l.length k1, .slice pt t.length k2, .slice ps s.length k3, .slice pc' c.length k4] H Q = Q (.bool true) H := by
  refine pc (by decide) e6 rfl rfl ?_
  rw [b6]
  by_cases h60 : l.length ≤ 60 ∧ t.length ≤ 60 ∧ s.length ≤ 60 ∧ c.length ≤ 60
  case neg => rw [c6]; simp only [n6, r6, awake_ok, few_ok, h60, SB, Nat.reduceLT, callee, aOp, ne_eq, Nat.reduceEqDiff, aBin, aUn, if_true, if_false, reduceCtorEq, frame0, place, notTuple, Nat.reduceAdd, Nat.reduceLeDiff, resVal, dite_true, dite_false, Int.reduceEq, Int.reduceLT, Int.reduceLE]
  obtain ⟨n1, n2, n3, n4⟩ := h60
  have key : ∀ (fr : Nat → Value) (G1 : Heap) (ol ot os oc : Option Addr) (j1 j2 j3 j4 : Nat), fr 0 = .slice pl l.length k1 → fr 1 = .slice pt t.length k2 → fr 2 = .slice ps s.length k3 → fr 3 = .slice pc' c.length k4 → fr 9 = .slice ol l.length j1 → fr 10 = .slice ot t.length j2 → fr 11 = .slice os s.length j3 → fr 12 = .slice oc c.length j4 →
      Ext H G1 → Sl G1 encS 4 ol l → Sl G1 encT 7 ot t → Sl G1 encN 6 os s → Sl G1 encC 6 oc c → (c ≠ [] → oc ≠ none) → Ret E a6 H.length [.code (tlC (tlC (tlC c6)))] fr (G1 ++ []) fun v' _ => v' = .bool true := by
    intro fr G1 ol ot os oc j1 j2 j3 j4 g0 g1 g2 g3 g9 g10 g11 g12 hG1 hol hot hos hoc hopn
    simp only [c6, tlC]
    have ft := fun mp lim X Q => tells_ok (mp := mp) (lim := lim) (k1 := j1) (k2 := j2) (k3 := j3) (k4 := j4) (Q := Q) (hol.app X) (hot.app X) (hos.app X) (hoc.app X) (by omega) (by omega) (by omega) (by omega) ul ut us uc hopn
    have hE : Ext G1 G1 := Ext.refl
    simp only [n6, r6, g0, g1, g2, g3, g9, g10, g11, g12, ft, SB, Nat.reduceLT, callee, aOp, ne_eq, Nat.reduceEqDiff, aBin, aUn, if_true, if_false, reduceCtorEq, frame0, place, notTuple, Nat.reduceAdd, Nat.reduceLeDiff, resVal, dite_true, dite_false, Int.reduceEq, Int.reduceLT, Int.reduceLE]
    refine Ret_rounds (fun i => l.length - i) (fun i fr G => i ≤ l.length ∧ fr 0 = .slice pl l.length k1 ∧ fr 1 = .slice pt t.length k2 ∧ fr 2 = .slice ps s.length k3 ∧ fr 3 = .slice pc' c.length k4 ∧ fr 9 = .slice ol l.length j1 ∧ fr 10 = .slice ot t.length j2 ∧ fr 11 = .slice os s.length j3 ∧ fr 12 = .slice oc c.length j4 ∧ fr 13 = .int .i64 (i : Int) ∧ Ext G1 G) 0 ⟨Nat.zero_le _, (by simp only [g0, upd_same, upd_ne, ne_eq, Nat.reduceEqDiff, not_false_eq_true, frame0, List.getD_cons_zero, List.getD_cons_succ]), (by simp only [g1, upd_same, upd_ne, ne_eq, Nat.reduceEqDiff, not_false_eq_true, frame0, List.getD_cons_zero, List.getD_cons_succ]), (by simp only [g2, upd_same, upd_ne, ne_eq, Nat.reduceEqDiff, not_false_eq_true, frame0, List.getD_cons_zero, List.getD_cons_succ]), (by simp only [g3, upd_same, upd_ne, ne_eq, Nat.reduceEqDiff, not_false_eq_true, frame0, List.getD_cons_zero, List.getD_cons_succ]), (by simp only [g9, upd_same, upd_ne, ne_eq, Nat.reduceEqDiff, not_false_eq_true, frame0, List.getD_cons_zero, List.getD_cons_succ]), (by simp only [g10, upd_same, upd_ne, ne_eq, Nat.reduceEqDiff, not_false_eq_true, frame0, List.getD_cons_zero, List.getD_cons_succ]), (by simp only [g11, upd_same, upd_ne, ne_eq, Nat.reduceEqDiff, not_false_eq_true, frame0, List.getD_cons_zero, List.getD_cons_succ]), (by simp only [g12, upd_same, upd_ne, ne_eq, Nat.reduceEqDiff, not_false_eq_true, frame0, List.getD_cons_zero, List.getD_cons_succ]), by rfl, hE.app⟩ ?_
    clear g0 g1 g2 g3 g9 g10 g11 g12 hE
    intro i fr G ⟨hi, g0, g1, g2, g3, g9, g10, g11, g12, gi, hE⟩ hN
    rw [Ret_code l6_4.eq_1]
    refine Ret_pad ?_
    by_cases hlt : i < l.length
    · have ho1 := (hG1.trans hE).sl hl
      have ho2 := hE.sl hol
      have hidx1 := fun c (k : IntKind) (H1 : Heap) => ho1.idx (c := c) (k := k) (H1 := H1) hlt
      have hidx2 := fun c (k : IntKind) (H1 : Heap) => ho2.idx (c := c) (k := k) (H1 := H1) hlt
      have hld1 := fun X => (ho1.app X).loadCells encS_len hlt
      have hld2 := fun X => (ho2.app X).loadCells encS_len hlt
      have hw1 : IntKind.i64.wrap ((i : Int) + 1) = ((i + 1 : Nat) : Int) := wrap_nat (by omega)
      simp only [n6, r6, g0, g1, g2, g3, g9, g10, g11, g12, gi, hlt, hidx1, hidx2, hld1, hld2, aEq_agg, eqS, hw1, SB, Nat.reduceLT, callee, aOp, ne_eq, Nat.reduceEqDiff, aBin, aUn, if_true, if_false, reduceCtorEq, frame0, place, notTuple, Nat.reduceAdd, Nat.reduceLeDiff, resVal, dite_true, dite_false, Int.reduceEq, Int.reduceLT, Int.reduceLE]
      exact hN (i + 1) _ _ ⟨by omega, (by simp only [g0, upd_same, upd_ne, ne_eq, Nat.reduceEqDiff, not_false_eq_true, frame0, List.getD_cons_zero, List.getD_cons_succ]), (by simp only [g1, upd_same, upd_ne, ne_eq, Nat.reduceEqDiff, not_false_eq_true, frame0, List.getD_cons_zero, List.getD_cons_succ]), (by simp only [g2, upd_same, upd_ne, ne_eq, Nat.reduceEqDiff, not_false_eq_true, frame0, List.getD_cons_zero, List.getD_cons_succ]), (by simp only [g3, upd_same, upd_ne, ne_eq, Nat.reduceEqDiff, not_false_eq_true, frame0, List.getD_cons_zero, List.getD_cons_succ]), (by simp only [g9, upd_same, upd_ne, ne_eq, Nat.reduceEqDiff, not_false_eq_true, frame0, List.getD_cons_zero, List.getD_cons_succ]), (by simp only [g10, upd_same, upd_ne, ne_eq, Nat.reduceEqDiff, not_false_eq_true, frame0, List.getD_cons_zero, List.getD_cons_succ]), (by simp only [g11, upd_same, upd_ne, ne_eq, Nat.reduceEqDiff, not_false_eq_true, frame0, List.getD_cons_zero, List.getD_cons_succ]), (by simp only [g12, upd_same, upd_ne, ne_eq, Nat.reduceEqDiff, not_false_eq_true, frame0, List.getD_cons_zero, List.getD_cons_succ]), (by simp only [upd_same, upd_ne, ne_eq, Nat.reduceEqDiff, not_false_eq_true, frame0, List.getD_cons_zero, List.getD_cons_succ]), hE.app⟩ (by omega)
    obtain rfl : i = l.length := by omega
    clear hN
    simp only [n6, r6, g0, g1, g2, g3, g9, g10, g11, g12, gi, hlt, awake_ok, SB, Nat.reduceLT, callee, aOp, ne_eq, Nat.reduceEqDiff, aBin, aUn, if_true, if_false, reduceCtorEq, frame0, place, notTuple, Nat.reduceAdd, Nat.reduceLeDiff, resVal, dite_true, dite_false, Int.reduceEq, Int.reduceLT, Int.reduceLE]
    refine Ret_rounds (fun i => t.length - i) (fun i fr G => i ≤ t.length ∧ fr 0 = .slice pl l.length k1 ∧ fr 1 = .slice pt t.length k2 ∧ fr 2 = .slice ps s.length k3 ∧ fr 3 = .slice pc' c.length k4 ∧ fr 9 = .slice ol l.length j1 ∧ fr 10 = .slice ot t.length j2 ∧ fr 11 = .slice os s.length j3 ∧ fr 12 = .slice oc c.length j4 ∧ fr 14 = .int .i64 (i : Int) ∧ Ext G1 G) 0 ⟨Nat.zero_le _, (by simp only [g0, upd_same, upd_ne, ne_eq, Nat.reduceEqDiff, not_false_eq_true, frame0, List.getD_cons_zero, List.getD_cons_succ]), (by simp only [g1, upd_same, upd_ne, ne_eq, Nat.reduceEqDiff, not_false_eq_true, frame0, List.getD_cons_zero, List.getD_cons_succ]), (by simp only [g2, upd_same, upd_ne, ne_eq, Nat.reduceEqDiff, not_false_eq_true, frame0, List.getD_cons_zero, List.getD_cons_succ]), (by simp only [g3, upd_same, upd_ne, ne_eq, Nat.reduceEqDiff, not_false_eq_true, frame0, List.getD_cons_zero, List.getD_cons_succ]), (by simp only [g9, upd_same, upd_ne, ne_eq, Nat.reduceEqDiff, not_false_eq_true, frame0, List.getD_cons_zero, List.getD_cons_succ]), (by simp only [g10, upd_same, upd_ne, ne_eq, Nat.reduceEqDiff, not_false_eq_true, frame0, List.getD_cons_zero, List.getD_cons_succ]), (by simp only [g11, upd_same, upd_ne, ne_eq, Nat.reduceEqDiff, not_false_eq_true, frame0, List.getD_cons_zero, List.getD_cons_succ]), (by simp only [g12, upd_same, upd_ne, ne_eq, Nat.reduceEqDiff, not_false_eq_true, frame0, List.getD_cons_zero, List.getD_cons_succ]), by rfl, hE.app⟩ ?_
    clear g0 g1 g2 g3 g9 g10 g11 g12 hE
    intro i fr G ⟨hi, g0, g1, g2, g3, g9, g10, g11, g12, gi, hE⟩ hN
    rw [Ret_code l6_3.eq_1]
    refine Ret_pad ?_
    by_cases hlt : i < t.length
    · have ho1 := (hG1.trans hE).sl ht
      have ho2 := hE.sl hot
      have hidx1 := fun c (k : IntKind) (H1 : Heap) => ho1.idx (c := c) (k := k) (H1 := H1) hlt
      have hidx2 := fun c (k : IntKind) (H1 : Heap) => ho2.idx (c := c) (k := k) (H1 := H1) hlt
      have hld1 := fun X => (ho1.app X).loadCells encT_len hlt
      have hld2 := fun X => (ho2.app X).loadCells encT_len hlt
      have hw1 : IntKind.i64.wrap ((i : Int) + 1) = ((i + 1 : Nat) : Int) := wrap_nat (by omega)
      simp only [n6, r6, g0, g1, g2, g3, g9, g10, g11, g12, gi, hlt, hidx1, hidx2, hld1, hld2, aEq_agg, eqT, hw1, SB, Nat.reduceLT, callee, aOp, ne_eq, Nat.reduceEqDiff, aBin, aUn, if_true, if_false, reduceCtorEq, frame0, place, notTuple, Nat.reduceAdd, Nat.reduceLeDiff, resVal, dite_true, dite_false, Int.reduceEq, Int.reduceLT, Int.reduceLE]
      exact hN (i + 1) _ _ ⟨by omega, (by simp only [g0, upd_same, upd_ne, ne_eq, Nat.reduceEqDiff, not_false_eq_true, frame0, List.getD_cons_zero, List.getD_cons_succ]), (by simp only [g1, upd_same, upd_ne, ne_eq, Nat.reduceEqDiff, not_false_eq_true, frame0, List.getD_cons_zero, List.getD_cons_succ]), (by simp only [g2, upd_same, upd_ne, ne_eq, Nat.reduceEqDiff, not_false_eq_true, frame0, List.getD_cons_zero, List.getD_cons_succ]), (by simp only [g3, upd_same, upd_ne, ne_eq, Nat.reduceEqDiff, not_false_eq_true, frame0, List.getD_cons_zero, List.getD_cons_succ]), (by simp only [g9, upd_same, upd_ne, ne_eq, Nat.reduceEqDiff, not_false_eq_true, frame0, List.getD_cons_zero, List.getD_cons_succ]), (by simp only [g10, upd_same, upd_ne, ne_eq, Nat.reduceEqDiff, not_false_eq_true, frame0, List.getD_cons_zero, List.getD_cons_succ]), (by simp only [g11, upd_same, upd_ne, ne_eq, Nat.reduceEqDiff, not_false_eq_true, frame0, List.getD_cons_zero, List.getD_cons_succ]), (by simp only [g12, upd_same, upd_ne, ne_eq, Nat.reduceEqDiff, not_false_eq_true, frame0, List.getD_cons_zero, List.getD_cons_succ]), (by simp only [upd_same, upd_ne, ne_eq, Nat.reduceEqDiff, not_false_eq_true, frame0, List.getD_cons_zero, List.getD_cons_succ]), hE.app⟩ (by omega)
    obtain rfl : i = t.length := by omega
    clear hN
    simp only [n6, r6, g0, g1, g2, g3, g9, g10, g11, g12, gi, hlt, awake_ok, SB, Nat.reduceLT, callee, aOp, ne_eq, Nat.reduceEqDiff, aBin, aUn, if_true, if_false, reduceCtorEq, frame0, place, notTuple, Nat.reduceAdd, Nat.reduceLeDiff, resVal, dite_true, dite_false, Int.reduceEq, Int.reduceLT, Int.reduceLE]
    refine Ret_rounds (fun i => s.length - i) (fun i fr G => i ≤ s.length ∧ fr 0 = .slice pl l.length k1 ∧ fr 1 = .slice pt t.length k2 ∧ fr 2 = .slice ps s.length k3 ∧ fr 3 = .slice pc' c.length k4 ∧ fr 9 = .slice ol l.length j1 ∧ fr 10 = .slice ot t.length j2 ∧ fr 11 = .slice os s.length j3 ∧ fr 12 = .slice oc c.length j4 ∧ fr 15 = .int .i64 (i : Int) ∧ Ext G1 G) 0 ⟨Nat.zero_le _, (by simp only [g0, upd_same, upd_ne, ne_eq, Nat.reduceEqDiff, not_false_eq_true, frame0, List.getD_cons_zero, List.getD_cons_succ]), (by simp only [g1, upd_same, upd_ne, ne_eq, Nat.reduceEqDiff, not_false_eq_true, frame0, List.getD_cons_zero, List.getD_cons_succ]), (by simp only [g2, upd_same, upd_ne, ne_eq, Nat.reduceEqDiff, not_false_eq_true, frame0, List.getD_cons_zero, List.getD_cons_succ]), (by simp only [g3, upd_same, upd_ne, ne_eq, Nat.reduceEqDiff, not_false_eq_true, frame0, List.getD_cons_zero, List.getD_cons_succ]), (by simp only [g9, upd_same, upd_ne, ne_eq, Nat.reduceEqDiff, not_false_eq_true, frame0, List.getD_cons_zero, List.getD_cons_succ]), (by simp only [g10, upd_same, upd_ne, ne_eq, Nat.reduceEqDiff, not_false_eq_true, frame0, List.getD_cons_zero, List.getD_cons_succ]), (by simp only [g11, upd_same, upd_ne, ne_eq, Nat.reduceEqDiff, not_false_eq_true, frame0, List.getD_cons_zero, List.getD_cons_succ]), (by simp only [g12, upd_same, upd_ne, ne_eq, Nat.reduceEqDiff, not_false_eq_true, frame0, List.getD_cons_zero, List.getD_cons_succ]), by rfl, hE.app⟩ ?_
    clear g0 g1 g2 g3 g9 g10 g11 g12 hE
    intro i fr G ⟨hi, g0, g1, g2, g3, g9, g10, g11, g12, gi, hE⟩ hN
    rw [Ret_code l6_2.eq_1]
    refine Ret_pad ?_
    by_cases hlt : i < s.length
    · have ho1 := (hG1.trans hE).sl hs
      have ho2 := hE.sl hos
      have hidx1 := fun c (k : IntKind) (H1 : Heap) => ho1.idx (c := c) (k := k) (H1 := H1) hlt
      have hidx2 := fun c (k : IntKind) (H1 : Heap) => ho2.idx (c := c) (k := k) (H1 := H1) hlt
      have hld1 := fun X => (ho1.app X).loadCells encN_len hlt
      have hld2 := fun X => (ho2.app X).loadCells encN_len hlt
      have hw1 : IntKind.i64.wrap ((i : Int) + 1) = ((i + 1 : Nat) : Int) := wrap_nat (by omega)
      simp only [n6, r6, g0, g1, g2, g3, g9, g10, g11, g12, gi, hlt, hidx1, hidx2, hld1, hld2, aEq_agg, eqN, hw1, SB, Nat.reduceLT, callee, aOp, ne_eq, Nat.reduceEqDiff, aBin, aUn, if_true, if_false, reduceCtorEq, frame0, place, notTuple, Nat.reduceAdd, Nat.reduceLeDiff, resVal, dite_true, dite_false, Int.reduceEq, Int.reduceLT, Int.reduceLE]
      exact hN (i + 1) _ _ ⟨by omega, (by simp only [g0, upd_same, upd_ne, ne_eq, Nat.reduceEqDiff, not_false_eq_true, frame0, List.getD_cons_zero, List.getD_cons_succ]), (by simp only [g1, upd_same, upd_ne, ne_eq, Nat.reduceEqDiff, not_false_eq_true, frame0, List.getD_cons_zero, List.getD_cons_succ]), (by simp only [g2, upd_same, upd_ne, ne_eq, Nat.reduceEqDiff, not_false_eq_true, frame0, List.getD_cons_zero, List.getD_cons_succ]), (by simp only [g3, upd_same, upd_ne, ne_eq, Nat.reduceEqDiff, not_false_eq_true, frame0, List.getD_cons_zero, List.getD_cons_succ]), (by simp only [g9, upd_same, upd_ne, ne_eq, Nat.reduceEqDiff, not_false_eq_true, frame0, List.getD_cons_zero, List.getD_cons_succ]), (by simp only [g10, upd_same, upd_ne, ne_eq, Nat.reduceEqDiff, not_false_eq_true, frame0, List.getD_cons_zero, List.getD_cons_succ]), (by simp only [g11, upd_same, upd_ne, ne_eq, Nat.reduceEqDiff, not_false_eq_true, frame0, List.getD_cons_zero, List.getD_cons_succ]), (by simp only [g12, upd_same, upd_ne, ne_eq, Nat.reduceEqDiff, not_false_eq_true, frame0, List.getD_cons_zero, List.getD_cons_succ]), (by simp only [upd_same, upd_ne, ne_eq, Nat.reduceEqDiff, not_false_eq_true, frame0, List.getD_cons_zero, List.getD_cons_succ]), hE.app⟩ (by omega)
    obtain rfl : i = s.length := by omega
    clear hN
    simp only [n6, r6, g0, g1, g2, g3, g9, g10, g11, g12, gi, hlt, awake_ok, SB, Nat.reduceLT, callee, aOp, ne_eq, Nat.reduceEqDiff, aBin, aUn, if_true, if_false, reduceCtorEq, frame0, place, notTuple, Nat.reduceAdd, Nat.reduceLeDiff, resVal, dite_true, dite_false, Int.reduceEq, Int.reduceLT, Int.reduceLE]
    refine Ret_rounds (fun i => c.length - i) (fun i fr G => i ≤ c.length ∧ fr 0 = .slice pl l.length k1 ∧ fr 1 = .slice pt t.length k2 ∧ fr 2 = .slice ps s.length k3 ∧ fr 3 = .slice pc' c.length k4 ∧ fr 9 = .slice ol l.length j1 ∧ fr 10 = .slice ot t.length j2 ∧ fr 11 = .slice os s.length j3 ∧ fr 12 = .slice oc c.length j4 ∧ fr 16 = .int .i64 (i : Int) ∧ Ext G1 G) 0 ⟨Nat.zero_le _, (by simp only [g0, upd_same, upd_ne, ne_eq, Nat.reduceEqDiff, not_false_eq_true, frame0, List.getD_cons_zero, List.getD_cons_succ]), (by simp only [g1, upd_same, upd_ne, ne_eq, Nat.reduceEqDiff, not_false_eq_true, frame0, List.getD_cons_zero, List.getD_cons_succ]), (by simp only [g2, upd_same, upd_ne, ne_eq, Nat.reduceEqDiff, not_false_eq_true, frame0, List.getD_cons_zero, List.getD_cons_succ]), (by simp only [g3, upd_same, upd_ne, ne_eq, Nat.reduceEqDiff, not_false_eq_true, frame0, List.getD_cons_zero, List.getD_cons_succ]), (by simp only [g9, upd_same, upd_ne, ne_eq, Nat.reduceEqDiff, not_false_eq_true, frame0, List.getD_cons_zero, List.getD_cons_succ]), (by simp only [g10, upd_same, upd_ne, ne_eq, Nat.reduceEqDiff, not_false_eq_true, frame0, List.getD_cons_zero, List.getD_cons_succ]), (by simp only [g11, upd_same, upd_ne, ne_eq, Nat.reduceEqDiff, not_false_eq_true, frame0, List.getD_cons_zero, List.getD_cons_succ]), (by simp only [g12, upd_same, upd_ne, ne_eq, Nat.reduceEqDiff, not_false_eq_true, frame0, List.getD_cons_zero, List.getD_cons_succ]), by rfl, hE.app⟩ ?_
    clear g0 g1 g2 g3 g9 g10 g11 g12 hE
    intro i fr G ⟨hi, g0, g1, g2, g3, g9, g10, g11, g12, gi, hE⟩ hN
    rw [Ret_code l6_1.eq_1]
    refine Ret_pad ?_
    by_cases hlt : i < c.length
    · have ho1 := (hG1.trans hE).sl hc
      have ho2 := hE.sl hoc
      have hidx1 := fun c (k : IntKind) (H1 : Heap) => ho1.idx (c := c) (k := k) (H1 := H1) hlt
      have hidx2 := fun c (k : IntKind) (H1 : Heap) => ho2.idx (c := c) (k := k) (H1 := H1) hlt
      have hld1 := fun X => (ho1.app X).loadCells encC_len hlt
      have hld2 := fun X => (ho2.app X).loadCells encC_len hlt
      have hw1 : IntKind.i64.wrap ((i : Int) + 1) = ((i + 1 : Nat) : Int) := wrap_nat (by omega)
      simp only [n6, r6, g0, g1, g2, g3, g9, g10, g11, g12, gi, hlt, hidx1, hidx2, hld1, hld2, aEq_agg, eqC, hw1, SB, Nat.reduceLT, callee, aOp, ne_eq, Nat.reduceEqDiff, aBin, aUn, if_true, if_false, reduceCtorEq, frame0, place, notTuple, Nat.reduceAdd, Nat.reduceLeDiff, resVal, dite_true, dite_false, Int.reduceEq, Int.reduceLT, Int.reduceLE]
      exact hN (i + 1) _ _ ⟨by omega, (by simp only [g0, upd_same, upd_ne, ne_eq, Nat.reduceEqDiff, not_false_eq_true, frame0, List.getD_cons_zero, List.getD_cons_succ]), (by simp only [g1, upd_same, upd_ne, ne_eq, Nat.reduceEqDiff, not_false_eq_true, frame0, List.getD_cons_zero, List.getD_cons_succ]), (by simp only [g2, upd_same, upd_ne, ne_eq, Nat.reduceEqDiff, not_false_eq_true, frame0, List.getD_cons_zero, List.getD_cons_succ]), (by simp only [g3, upd_same, upd_ne, ne_eq, Nat.reduceEqDiff, not_false_eq_true, frame0, List.getD_cons_zero, List.getD_cons_succ]), (by simp only [g9, upd_same, upd_ne, ne_eq, Nat.reduceEqDiff, not_false_eq_true, frame0, List.getD_cons_zero, List.getD_cons_succ]), (by simp only [g10, upd_same, upd_ne, ne_eq, Nat.reduceEqDiff, not_false_eq_true, frame0, List.getD_cons_zero, List.getD_cons_succ]), (by simp only [g11, upd_same, upd_ne, ne_eq, Nat.reduceEqDiff, not_false_eq_true, frame0, List.getD_cons_zero, List.getD_cons_succ]), (by simp only [g12, upd_same, upd_ne, ne_eq, Nat.reduceEqDiff, not_false_eq_true, frame0, List.getD_cons_zero, List.getD_cons_succ]), (by simp only [upd_same, upd_ne, ne_eq, Nat.reduceEqDiff, not_false_eq_true, frame0, List.getD_cons_zero, List.getD_cons_succ]), hE.app⟩ (by omega)
    obtain rfl : i = c.length := by omega
    clear hN
    simp only [n6, r6, g0, g1, g2, g3, g9, g10, g11, g12, gi, hlt, awake_ok, SB, Nat.reduceLT, callee, aOp, ne_eq, Nat.reduceEqDiff, aBin, aUn, if_true, if_false, reduceCtorEq, frame0, place, notTuple, Nat.reduceAdd, Nat.reduceLeDiff, resVal, dite_true, dite_false, Int.reduceEq, Int.reduceLT, Int.reduceLE]
  rw [show c6 = .seq (hdC c6) (.seq (hdC (tlC c6)) (.seq (hdC (tlC (tlC c6))) (tlC (tlC (tlC c6))))) from rfl]
  generalize tlC (tlC (tlC c6)) = T at key
  simp only [c6, hdC, tlC]
  have a1 := append_copy (lim := H.length) (bytes := 32) (c := k1) hl pnl (by decide) (by unfold maxBytes; omega) (by omega)
  have a2 := append_copy (lim := H.length) (bytes := 56) (c := k2) ht pnt (by decide) (by unfold maxBytes; omega) (by omega)
  have a3 := append_copy (lim := H.length) (bytes := 48) (c := k3) hs pns (by decide) (by unfold maxBytes; omega) (by omega)
  have a4 := append_copy (lim := H.length) (bytes := 48) (c := k4) hc hpn (by decide) (by unfold maxBytes; omega) (by omega)
  have z : ∀ {α : Type} {l : List α}, l = [] → l.length = 0 := fun h => by rw [h]; rfl
  by_cases e1 : l = [] <;> by_cases e2 : t = [] <;> by_cases e3 : s = [] <;> by_cases e4 : c = []
  all_goals (try subst e1)
  all_goals (try subst e2)
  all_goals (try subst e3)
  all_goals (try subst e4)
  all_goals
    simp only [*, if_true, if_false, List.length_nil] at a1 a2 a3 a4
    simp only [n6, r6, awake_ok, few_ok, n1, n2, n3, n4, a1, a2, a3, a4, Nat.zero_le, SB, Nat.reduceLT, callee, aOp, ne_eq, Nat.reduceEqDiff, aBin, aUn, if_true, if_false, reduceCtorEq, frame0, place, notTuple, Nat.reduceAdd, Nat.reduceLeDiff, resVal, dite_true, dite_false, Int.reduceEq, Int.reduceLT, Int.reduceLE]
    refine Ret_pad (key _ _ _ _ _ _ _ _ _ _ (by rfl) (by rfl) (by rfl) (by rfl) (by rfl) (by rfl) (by rfl) (by rfl) Ext.refl.app ?_ ?_ ?_ ?_ (fun _ h => by cases h))
    · first | exact ⟨rfl, fun h => absurd rfl h⟩ | exact Sl.lit encS_len (by rw [hget_new]; rfl) (by rw [hget_new]; rfl)
    · first | exact ⟨rfl, fun h => absurd rfl h⟩ | exact Sl.lit encT_len (by rw [hget_new]; rfl) (by rw [hget_new]; rfl)
    · first | exact ⟨rfl, fun h => absurd rfl h⟩ | exact Sl.lit encN_len (by rw [hget_new]; rfl) (by rw [hget_new]; rfl)
    · first | exact ⟨rfl, fun h => absurd rfl h⟩ | exact Sl.lit encC_len (by rw [hget_new]; rfl) (by rw [hget_new]; rfl)
end Go.Proofs.Ytlmoijifgbkapaa.Fn
namespace Go.Proofs.Ytlmoijifgbkapaa.Fn
open Go.AM Go.AM.Sym
set_option maxRecDepth 100000
set_option linter.unusedVariables false
set_option linter.unusedSimpArgs false
set_option maxHeartbeats 4000000

theorem sorted_unique : ∀ {a b : List Clm}, a.Perm b → a.Pairwise Lt → b.Pairwise Lt → a = b
  | [], b, hp, _, _ => (List.Perm.eq_nil hp.symm).symm
  | x :: a, [], hp, _, _ => List.Perm.eq_nil hp
  | x :: a, y :: b, hp, ha, hb => by
    rw [List.pairwise_cons] at ha hb
    have e : x = y := by
      rcases List.mem_cons.1 (hp.subset (List.mem_cons_self (a := x) (l := a))) with h | h
      · exact h
      · rcases List.mem_cons.1 (hp.symm.subset (List.mem_cons_self (a := y) (l := b))) with h2 | h2
        · exact h2.symm
        · exact absurd (Lt_trans (ha.1 y h2) (hb.1 x h)) (Lt_irrefl x)
    subst e
    rw [sorted_unique ((List.perm_cons x).1 hp) ha.2 hb.2]
theorem rightN_of {s : List Snt} (h1 : s.length ≤ 2000) (h2 : ∀ x ∈ s, okN x = true ∧ 1 ≤ x.cls) (h3 : s.Pairwise (fun a b => a.item ≠ b.item)) : rightN s = true := by
  simp only [rightN, Bool.and_eq_true, decide_eq_true_eq]
  refine ⟨h1, allFrom_iff.2 fun j _ hj => ?_⟩
  have h4 := h2 _ (gt_mem hj)
  have h5 : (gt s j).item ∉ (s.take j).map (·.item) := take_not (f := (·.item)) (Nat.le_of_lt hj) fun i hi => by
    rw [gt_lt hj, gt_lt (by omega)]
    exact List.pairwise_iff_getElem.1 h3 i j (by omega) hj hi
  simp only [okNAt, Bool.and_eq_true, decide_eq_true_eq, Bool.not_eq_true', List.contains_eq_mem, decide_eq_false_iff_not]
  exact ⟨⟨h4.2, h5⟩, h4.1⟩
theorem rightC_of {s : List Clm} (h1 : s.length ≤ 500) (h2 : ∀ x ∈ s, okC x = true ∧ (x.kind = 1 ∨ x.kind = 2)) (h3 : s.Pairwise (fun a b => a.id ≠ b.id)) : rightC s = true := by
  simp only [rightC, Bool.and_eq_true, decide_eq_true_eq]
  refine ⟨h1, allFrom_iff.2 fun j _ hj => ?_⟩
  have h4 := h2 _ (gt_mem hj)
  have h5 : (gt s j).id ∉ (s.take j).map (·.id) := take_not (f := (·.id)) (Nat.le_of_lt hj) fun i hi => by
    rw [gt_lt hj, gt_lt (by omega)]
    exact List.pairwise_iff_getElem.1 h3 i j (by omega) hj hi
  simp only [okCAt, Bool.and_eq_true, decide_eq_true_eq, Bool.not_eq_true', List.contains_eq_mem, decide_eq_false_iff_not]
  exact ⟨⟨h4.2, h5⟩, h4.1⟩
theorem rightN_perm {s u : List Snt} (hp : u.Perm s) (h : rightN s = true) : rightN u = true := by
  refine rightN_of ?_ (fun x hx => rightN_mem h (hp.subset hx)) ((hp.pairwise_iff (fun h e => h e.symm)).2 (rightN_items h))
  rw [hp.length_eq]
  unfold rightN at h
  simp only [Bool.and_eq_true, decide_eq_true_eq] at h
  exact h.1
theorem rightC_perm {s u : List Clm} (hp : u.Perm s) (h : rightC s = true) : rightC u = true := by
  refine rightC_of ?_ (fun x hx => rightC_mem h (hp.subset hx)) ((hp.pairwise_iff (fun h e => h e.symm)).2 (rightC_ids h))
  rw [hp.length_eq]
  unfold rightC at h
  simp only [Bool.and_eq_true, decide_eq_true_eq] at h
  exact h.1
theorem find_item {k : Int} : ∀ {s : List Snt}, s.Pairwise (fun a b => a.item ≠ b.item) → ∀ x, (s.find? (fun x => decide (x.item = k)) = some x ↔ x ∈ s ∧ x.item = k)
  | [], _, x => by simp
  | y :: s, h, x => by
    rw [List.pairwise_cons] at h
    rw [List.find?_cons]
    by_cases hy : y.item = k
    · simp only [hy, decide_true]
      constructor
      · intro e; cases e; exact ⟨by simp, hy⟩
      · rintro ⟨hm, hk⟩
        rcases List.mem_cons.1 hm with rfl | hm
        · rfl
        · exact absurd (hy.trans hk.symm) (h.1 x hm)
    · simp only [hy, decide_false]
      rw [find_item h.2 x]
      constructor
      · rintro ⟨hm, hk⟩; exact ⟨by simp [hm], hk⟩
      · rintro ⟨hm, hk⟩
        rcases List.mem_cons.1 hm with rfl | hm
        · exact absurd hk hy
        · exact ⟨hm, hk⟩
theorem decide_perm {l : List Std} {t : List Trm} {s u : List Snt} (hp : u.Perm s) (h : rightN s = true) (c : Clm) : decideS l t u c = decideS l t s c := by
  have key : u.find? (fun x => decide (x.item = c.item)) = s.find? (fun x => decide (x.item = c.item)) := by
    have h1 := find_item (k := c.item) (rightN_items h)
    have h2 := find_item (k := c.item) (rightN_items (rightN_perm hp h))
    cases hs : s.find? (fun x => decide (x.item = c.item)) with
    | some x =>
      obtain ⟨q1, q2⟩ := (h1 x).1 hs
      exact (h2 x).2 ⟨hp.symm.subset q1, q2⟩
    | none =>
      cases hu : u.find? (fun x => decide (x.item = c.item)) with
      | none => rfl
      | some x =>
        obtain ⟨q1, q2⟩ := (h2 x).1 hu
        have := (h1 x).2 ⟨hp.subset q1, q2⟩
        rw [hs] at this; cases this
  unfold decideS
  congr 1
  unfold fileS
  rw [key]
theorem goO_perm {l : List Std} {t : List Trm} {s u : List Snt} (hp : u.Perm s) (h : rightN s = true) : ∀ (d : List Clm) (p : List Int), goO l t u p d = goO l t s p d
  | [], p => rfl
  | x :: d, p => by
    have e : ∀ p, outO l t u p x = outO l t s p x := fun p => by unfold outO; rw [decide_perm hp h]
    simp only [goO, paidN, e]
    rw [goO_perm hp h d]

/-- The greatest time, and no less than none. -/
def lastT : List Clm → Int
  | [] => 0
  | x :: c => if lastT c < x.tm then x.tm else lastT c
theorem lastT_le : ∀ {c : List Clm} {x : Clm}, x ∈ c → x.tm ≤ lastT c
  | y :: c, x, h => by
    rw [lastT]
    rcases List.mem_cons.1 h with rfl | h
    · split <;> omega
    · have := lastT_le h; split <;> omega
theorem lastT_bd {m : Int} (hm : 0 ≤ m) : ∀ {c : List Clm}, (∀ x ∈ c, x.tm ≤ m) → 0 ≤ lastT c ∧ lastT c ≤ m
  | [], _ => by simp [lastT, hm]
  | y :: c, h => by
    have h1 := lastT_bd hm (c := c) fun x hx => h x (by simp [hx])
    have h2 := h y (by simp)
    rw [lastT]
    split <;> omega

/-- An ID that is not met comes soon. -/
theorem ids_free : ∀ (n : Nat) (ids : List Int), (∀ i : Nat, i < n → ((i : Int) + 1) ∈ ids) → ids.Nodup → n ≤ ids.length
  | 0, _, _, _ => Nat.zero_le _
  | n + 1, ids, h, hn => by
    have hm := h n (by omega)
    have hp := List.perm_cons_erase hm
    have ih := ids_free n (ids.erase ((n : Int) + 1)) (fun i hi => (List.mem_erase_of_ne (by omega)).2 (h i (by omega))) (hn.erase _)
    have := hp.length_eq
    simp at this
    omega

theorem sameOut_ok {mp : Bool} {lim : Nat} {p q : Option Addr} {a : List (Int × Int × Int)} {k1 k2 : Nat} {H : Heap} {Q : Value → Heap → Prop} (hp : Sl H encO 3 p a) (hq : Sl H encO 3 q a) (hn : a.length < 2 ^ 62) :
    CallR E mp lim 30 [.slice p a.length k1, .slice q a.length k2] H Q = Q (.bool true) H := by
  refine pc (by decide) e30 rfl rfl ?_
  rw [b30, c30]
  simp only [n30, r30, SB, Nat.reduceLT, callee, aOp, ne_eq, Nat.reduceEqDiff, aBin, aUn, if_true, if_false, reduceCtorEq, frame0, place, notTuple, Nat.reduceAdd, Nat.reduceLeDiff, resVal, dite_true, dite_false, Int.reduceEq, Int.reduceLT, Int.reduceLE]
  refine Ret_rounds (fun i => a.length - i) (fun i fr G => i ≤ a.length ∧ fr 0 = .slice p a.length k1 ∧ fr 1 = .slice q a.length k2 ∧ fr 5 = .int .i64 (i : Int) ∧ Ext H G) 0 ⟨Nat.zero_le _, (by simp only [upd_same, upd_ne, ne_eq, Nat.reduceEqDiff, not_false_eq_true, frame0, List.getD_cons_zero, List.getD_cons_succ]), (by simp only [upd_same, upd_ne, ne_eq, Nat.reduceEqDiff, not_false_eq_true, frame0, List.getD_cons_zero, List.getD_cons_succ]), by rfl, Ext.refl.app⟩ ?_
  intro i fr G ⟨hi, g0, g1, g5, hE⟩ hN
  rw [Ret_code l30_1.eq_1]
  refine Ret_pad ?_
  by_cases hlt : i < a.length
  · have h1 := hE.sl hp
    have h2 := hE.sl hq
    have hidx1 := fun c (k : IntKind) (H1 : Heap) => h1.idx (c := c) (k := k) (H1 := H1) hlt
    have hidx2 := fun c (k : IntKind) (H1 : Heap) => h2.idx (c := c) (k := k) (H1 := H1) hlt
    have hld1 := fun X => (h1.app X).loadCells encO_len hlt
    have hld2 := fun X => (h2.app X).loadCells encO_len hlt
    have hw1 : IntKind.i64.wrap ((i : Int) + 1) = ((i + 1 : Nat) : Int) := wrap_nat (by omega)
    simp only [n30, r30, g0, g1, g5, hlt, hidx1, hidx2, hld1, hld2, encO, eqO, hw1, Bool.not_true, SB, Nat.reduceLT, callee, aOp, ne_eq, Nat.reduceEqDiff, aBin, aUn, if_true, if_false, reduceCtorEq, frame0, place, notTuple, Nat.reduceAdd, Nat.reduceLeDiff, resVal, dite_true, dite_false, Int.reduceEq, Int.reduceLT, Int.reduceLE]
    exact hN (i + 1) _ _ ⟨by omega, (by simp only [g0, upd_same, upd_ne, ne_eq, Nat.reduceEqDiff, not_false_eq_true, frame0, List.getD_cons_zero, List.getD_cons_succ]), (by simp only [g1, upd_same, upd_ne, ne_eq, Nat.reduceEqDiff, not_false_eq_true, frame0, List.getD_cons_zero, List.getD_cons_succ]), (by simp only [upd_same, upd_ne, ne_eq, Nat.reduceEqDiff, not_false_eq_true, frame0, List.getD_cons_zero, List.getD_cons_succ]), hE.app⟩ (by omega)
  · simp only [n30, r30, g0, g1, g5, hlt, SB, Nat.reduceLT, callee, aOp, ne_eq, Nat.reduceEqDiff, aBin, aUn, if_true, if_false, reduceCtorEq, frame0, place, notTuple, Nat.reduceAdd, Nat.reduceLeDiff, resVal, dite_true, dite_false, Int.reduceEq, Int.reduceLT, Int.reduceLE]
end Go.Proofs.Ytlmoijifgbkapaa.Fn
