/-
  Joined texts, 7 of 9. A part of the claim that the last text states.
-/
import Derived.Test.YtlmoijifgbkapaaPU6
namespace Go.Proofs.Ytlmoijifgbkapaa.Fn
open Go.AM Go.AM.Sym
set_option maxRecDepth 100000
set_option linter.unusedVariables false
set_option linter.unusedSimpArgs false
set_option maxHeartbeats 4000000

theorem Sl.front {α : Type} {H : Heap} {enc : α → List Value} {e : Nat} {p : Option Addr} {l m : List α} (he : ∀ x, (enc x).length = e) (h : Sl H enc e p (l ++ m)) : Sl H enc e p l := by
  cases p with
  | none => simp only [Sl, List.append_eq_nil_iff] at h; exact h.1
  | some a =>
    refine ⟨h.1, fun hn => ?_⟩
    obtain ⟨ro, c, h2, h3, h4⟩ := h.2 (by simp [hn])
    have hle : l.length * e ≤ (l ++ m).length * e := Nat.mul_le_mul_right e (by simp)
    refine ⟨ro, c, h2, by omega, ?_⟩
    have := congrArg (List.take (l.length * e)) h4
    rw [List.take_take, Nat.min_eq_left hle, List.flatMap_append, List.take_left' (by rw [flat_len he])] at this
    exact this
theorem drop_rev {α : Type} [Inhabited α] {s : List α} {r : Nat} (h : r + 1 ≤ s.length) : (s.drop (r + 1)).reverse ++ [gt s r] = (s.drop r).reverse := by
  rw [List.drop_eq_getElem_cons (show r < s.length by omega), List.reverse_cons, gt_lt (by omega)]
theorem append_at {lim b bytes c dd : Nat} {H : Heap} {p : Option Addr} {l : List Clm} (hb : hget H b = .cells false []) (hs : Sl H encC 6 p l) (hp : p ≠ none) (h0 : l.length ≠ 0) (h2 : l.length * bytes ≤ maxBytes) (h3 : l.length < 2 ^ 61) :
    aAppend lim (some dd) 6 bytes false (.slice (some ⟨b, 0, none⟩) 0 0) (.slice p l.length c) H = some (.slice (some ⟨dd, 0, none⟩) l.length (loose 6), H.set dd (.cells false (l.flatMap encC))) := by
  obtain ⟨a, rfl, hl⟩ := hs.cells (fun q => h0 (by rw [q]; rfl))
  have h0' : AM.loadCells H ⟨b, 0, none⟩ (0 * 6) = some [] := by simp [loadCells_lit, hb]
  simp only [aAppend, firstCells, lenOf, hl, h0', h0, if_false, Bool.false_eq_true, Nat.zero_add]
  rw [if_neg (by omega), if_neg (by unfold loose; omega), if_pos (by decide), if_neg (by omega)]
  simp [place]
theorem append_on {lim R b n k dd : Nat} {H : Heap} {ro : Bool} {old new : List Value} (hR : hget H R = .cells false old) (hl : lim ≤ R) (hb : hget H b = .cells ro new) (ho : old.length = n * 6) (hn : new.length = 6) (h2 : (n + 1) * 48 ≤ maxBytes) (h3 : n < 2 ^ 61) :
    aAppend lim (some dd) 6 48 false (.slice (some ⟨R, 0, none⟩) n (loose 6)) (.slice (some ⟨b, 0, none⟩) 1 k) H = some (.slice (some ⟨dd, 0, none⟩) (n + 1) (loose 6), (H.set R .dead).set dd (.cells false (old ++ new))) := by
  have hx : AM.loadCells H ⟨b, 0, none⟩ (1 * 6) = some new := by
    rw [loadCells_lit, hb]
    simp only [Nat.one_mul, Nat.zero_add, List.drop_zero]
    rw [if_pos (by omega), List.take_of_length_le (by omega)]
  have hy : AM.loadCells H ⟨R, 0, none⟩ (n * 6) = some old := by
    rw [loadCells_lit, hR]
    simp only [Nat.zero_add, List.drop_zero]
    rw [if_pos (by omega), List.take_of_length_le (by omega)]
  have h00 : ¬ ((1 : Nat) = 0) := by decide
  simp only [aAppend, firstCells, lenOf, hx, hy, hR, hl, h00, if_false, if_true, Bool.false_eq_true]
  rw [if_neg (by unfold loose; omega)]
  simp [place]

theorem ClaimTurned_ok {mp : Bool} {lim : Nat} {pl pt ps pk : Option Addr} {l : List Std} {t : List Trm} {s : List Snt} {c : List Clm} {k1 k2 k3 k4 : Nat} {H : Heap} {Q : Value → Heap → Prop} (hl : Sl H encS 4 pl l) (ht : Sl H encT 7 pt t) (hs : Sl H encN 6 ps s) (hc : Sl H encC 6 pk c) (hpn : c ≠ [] → pk ≠ none) :
    CallR E mp lim 9 [.slice pl l.length k1, .slice pt t.length k2, .slice ps s.length k3, .slice pk c.length k4] H Q = Q (.bool true) H := by
  refine pc (by decide) e9 rfl rfl ?_
  rw [b9, c9]
  by_cases h60 : l.length ≤ 60 ∧ t.length ≤ 60 ∧ s.length ≤ 60 ∧ c.length ≤ 60
  case neg => simp only [n9, r9, awake_ok, few_ok, h60, SB, Nat.reduceLT, callee, aOp, ne_eq, Nat.reduceEqDiff, aBin, aUn, if_true, if_false, reduceCtorEq, frame0, place, notTuple, Nat.reduceAdd, Nat.reduceLeDiff, resVal, dite_true, dite_false, Int.reduceEq, Int.reduceLT, Int.reduceLE]
  obtain ⟨n1, n2, n3, n4⟩ := h60
  by_cases hck : checkS l t s c = 0
  case neg =>
    have hse := fun X Q => Settle_bad (lim := H.length) (k1 := k1) (k2 := k2) (k3 := k3) (k4 := k4) (Q := Q) (hl.app X) (ht.app X) (hs.app X) (hc.app X) (by omega) (by omega) (by omega) (by omega) hck
    simp only [n9, r9, awake_ok, few_ok, n1, n2, n3, n4, hse, hck, SB, Nat.reduceLT, callee, aOp, ne_eq, Nat.reduceEqDiff, aBin, aUn, if_true, if_false, reduceCtorEq, frame0, place, notTuple, Nat.reduceAdd, Nat.reduceLeDiff, resVal, dite_true, dite_false, Int.reduceEq, Int.reduceLT, Int.reduceLE]
  obtain ⟨r1, r2, r3, r4⟩ := checkS_ok hck
  obtain ⟨d, po, Y, hp, hlt, hout, hse⟩ := Settle_ok (lim := H.length) (k1 := k1) (k2 := k2) (k3 := k3) (k4 := k4) hl ht hs hc (by omega) (by omega) (by omega) (by omega) (Nat.le_refl _) hck hpn
  have hdl : d.length = c.length := hp.length_eq
  have hgol : (goO l t s [] d).length = c.length := by rw [goO_len, hdl]
  obtain ⟨G1, hG1⟩ : ∃ G, G = H ++ Y := ⟨_, rfl⟩
  have hE1 : Ext H G1 := ⟨Y, hG1⟩
  rw [← hG1] at hout
  have hse' : ∀ Q, CallR E false H.length 25 [.slice pl l.length k1, .slice pt t.length k2, .slice ps s.length k3, .slice pk c.length k4] (H ++ []) Q = Q (.tuple #[.slice po c.length c.length, .int .i64 0]) (G1 ++ []) := fun Q => by rw [List.append_nil, List.append_nil, hG1]; exact hse Q
  have hlG1 := hE1.len
  have w1 : IntKind.i64.wrap ((s.length : Int) - 1) = (s.length : Int) - 1 := wrap_id (by omega) (by omega)
  simp only [n9, r9, awake_ok, few_ok, n1, n2, n3, n4, hse', w1, SB, Nat.reduceLT, callee, aOp, ne_eq, Nat.reduceEqDiff, aBin, aUn, if_true, if_false, reduceCtorEq, frame0, place, notTuple, Nat.reduceAdd, Nat.reduceLeDiff, resVal, dite_true, dite_false, Int.reduceEq, Int.reduceLT, Int.reduceLE]
  -- the items, from the last one on
  refine Ret_rounds (fun r => r) (fun r fr G => r ≤ s.length ∧ (fr 0 = .slice pl l.length k1 ∧ fr 1 = .slice pt t.length k2 ∧ fr 2 = .slice ps s.length k3 ∧ fr 3 = .slice pk c.length k4 ∧ fr 9 = .slice po c.length c.length) ∧ fr 12 = .slice none 0 0 ∧ fr 13 = .int .i64 ((r : Int) - 1) ∧ Ext G1 G ∧ ∃ pu ku, fr 11 = .slice pu (s.drop r).reverse.length ku ∧ Own G1.length G encN 6 pu ku (s.drop r).reverse)
    s.length ⟨Nat.le_refl _, ⟨(by simp only [upd_same, upd_ne, ne_eq, Nat.reduceEqDiff, not_false_eq_true, frame0, List.getD_cons_zero, List.getD_cons_succ]), (by simp only [upd_same, upd_ne, ne_eq, Nat.reduceEqDiff, not_false_eq_true, frame0, List.getD_cons_zero, List.getD_cons_succ]), (by simp only [upd_same, upd_ne, ne_eq, Nat.reduceEqDiff, not_false_eq_true, frame0, List.getD_cons_zero, List.getD_cons_succ]), (by simp only [upd_same, upd_ne, ne_eq, Nat.reduceEqDiff, not_false_eq_true, frame0, List.getD_cons_zero, List.getD_cons_succ]), (by simp only [upd_same, upd_ne, ne_eq, Nat.reduceEqDiff, not_false_eq_true, frame0, List.getD_cons_zero, List.getD_cons_succ])⟩, (by simp only [upd_same, upd_ne, ne_eq, Nat.reduceEqDiff, not_false_eq_true, frame0, List.getD_cons_zero, List.getD_cons_succ]), (by simp only [upd_same, upd_ne, ne_eq, Nat.reduceEqDiff, not_false_eq_true, frame0, List.getD_cons_zero, List.getD_cons_succ]), Ext.refl.app, none, 0, by rw [List.drop_length]; exact (by simp only [List.reverse_nil, List.length_nil, upd_same, upd_ne, ne_eq, Nat.reduceEqDiff, not_false_eq_true, frame0, List.getD_cons_zero, List.getD_cons_succ]), by rw [List.drop_length]; exact Own.nil⟩ ?_
  intro r fr G ⟨hr, ⟨g0, g1, g2, g3, g9⟩, g12, g13, hE2, pu, ku, g11, hO⟩ hN
  rw [Ret_code l9_3.eq_1]
  refine Ret_pad ?_
  by_cases hr0 : 0 < r
  · obtain ⟨r, rfl⟩ : ∃ q, r = q + 1 := ⟨r - 1, by omega⟩
    have e1 : ((r + 1 : Nat) : Int) - 1 = (r : Int) := by omega
    rw [e1] at g13
    have hrl : r < s.length := by omega
    have hg := (hE1.trans hE2).sl hs
    have hld := fun X => (hg.app X).loadCells encN_len hrl
    have hidx := fun c (k : IntKind) (H1 : Heap) => hg.idx (c := c) (k := k) (H1 := H1) hrl
    have w2 : IntKind.i64.wrap ((r : Int) - 1) = (r : Int) - 1 := wrap_id (by omega) (by omega)
    have hdl' : (s.drop (r + 1)).reverse.length = s.length - (r + 1) := by simp
    obtain ⟨G', R, q1, q2, hM, hE', happ⟩ := hO.push1 (bytes := 48) hlG1 encN_len (by decide) (gt s r) (by unfold maxBytes; omega) (by omega)
    simp only [encN] at happ
    have hlim' : H.length ≤ G.length := by have := hE2.len; omega
    have hrr := len_rules hM.len
    have hlG2 := hE2.len
    simp only [n9, r9, g0, g1, g2, g3, g9, g11, g12, g13, hidx, hld, encN, w2, happ, hlim', hrr, nat_nn, SB, Nat.reduceLT, callee, aOp, ne_eq, Nat.reduceEqDiff, aBin, aUn, if_true, if_false, reduceCtorEq, frame0, place, notTuple, Nat.reduceAdd, Nat.reduceLeDiff, resVal, dite_true, dite_false, Int.reduceEq, Int.reduceLT, Int.reduceLE]
    refine hN r _ _ ⟨by omega, ⟨(by simp only [g0, upd_same, upd_ne, ne_eq, Nat.reduceEqDiff, not_false_eq_true, frame0, List.getD_cons_zero, List.getD_cons_succ]), (by simp only [g1, upd_same, upd_ne, ne_eq, Nat.reduceEqDiff, not_false_eq_true, frame0, List.getD_cons_zero, List.getD_cons_succ]), (by simp only [g2, upd_same, upd_ne, ne_eq, Nat.reduceEqDiff, not_false_eq_true, frame0, List.getD_cons_zero, List.getD_cons_succ]), (by simp only [g3, upd_same, upd_ne, ne_eq, Nat.reduceEqDiff, not_false_eq_true, frame0, List.getD_cons_zero, List.getD_cons_succ]), (by simp only [g9, upd_same, upd_ne, ne_eq, Nat.reduceEqDiff, not_false_eq_true, frame0, List.getD_cons_zero, List.getD_cons_succ])⟩, (by simp only [g12, upd_same, upd_ne, ne_eq, Nat.reduceEqDiff, not_false_eq_true, frame0, List.getD_cons_zero, List.getD_cons_succ]), (by simp only [upd_same, upd_ne, ne_eq, Nat.reduceEqDiff, not_false_eq_true, frame0, List.getD_cons_zero, List.getD_cons_succ]), (hE' G1 hE2 (Nat.le_refl _)).app, some ⟨G.length + 1, 0, none⟩, loose 6, ?_, Own.new ?_ (by omega)⟩ (by omega)
    · rw [show (s.drop r).reverse.length = (s.drop (r + 1)).reverse.length + 1 by simp; omega]; exact (by simp only [upd_same, upd_ne, ne_eq, Nat.reduceEqDiff, not_false_eq_true, frame0, List.getD_cons_zero, List.getD_cons_succ])
    · rw [hrr.2.1]
      simp only [List.getD_cons_succ, List.getD_cons_zero, drop_rev (show r + 1 ≤ s.length by omega)]
  obtain rfl : r = 0 := by omega
  clear hN
  have hm1 : ¬ (0 : Int) ≤ 0 - 1 := by decide
  have w3 : IntKind.i64.wrap ((c.length : Int) - 1) = (c.length : Int) - 1 := wrap_id (by omega) (by omega)
  rw [List.drop_zero] at g11 hO
  have hu := hO.sl encN_len
  simp only [n9, r9, g0, g1, g2, g3, g9, g11, g12, g13, hm1, w3, SB, Nat.reduceLT, callee, aOp, ne_eq, Nat.reduceEqDiff, aBin, aUn, if_true, if_false, reduceCtorEq, frame0, place, notTuple, Nat.reduceAdd, Nat.reduceLeDiff, resVal, dite_true, dite_false, Int.reduceEq, Int.reduceLT, Int.reduceLE]
  -- the claims, from the last one on
  have hE12 := hE1.trans hE2
  refine Ret_rounds (fun r => r) (fun r fr K => r ≤ c.length ∧ (fr 0 = .slice pl l.length k1 ∧ fr 1 = .slice pt t.length k2 ∧ fr 2 = .slice ps s.length k3 ∧ fr 3 = .slice pk c.length k4 ∧ fr 9 = .slice po c.length c.length) ∧ fr 11 = .slice pu s.reverse.length ku ∧ fr 14 = .int .i64 (lastT (c.drop r)) ∧ fr 15 = .int .i64 ((r : Int) - 1) ∧ Ext G K ∧ ∃ pd kd, fr 12 = .slice pd (c.drop r).reverse.length kd ∧ Own G.length K encC 6 pd kd (c.drop r).reverse)
    c.length ⟨Nat.le_refl _, ⟨(by simp only [g0, upd_same, upd_ne, ne_eq, Nat.reduceEqDiff, not_false_eq_true, frame0, List.getD_cons_zero, List.getD_cons_succ]), (by simp only [g1, upd_same, upd_ne, ne_eq, Nat.reduceEqDiff, not_false_eq_true, frame0, List.getD_cons_zero, List.getD_cons_succ]), (by simp only [g2, upd_same, upd_ne, ne_eq, Nat.reduceEqDiff, not_false_eq_true, frame0, List.getD_cons_zero, List.getD_cons_succ]), (by simp only [g3, upd_same, upd_ne, ne_eq, Nat.reduceEqDiff, not_false_eq_true, frame0, List.getD_cons_zero, List.getD_cons_succ]), (by simp only [g9, upd_same, upd_ne, ne_eq, Nat.reduceEqDiff, not_false_eq_true, frame0, List.getD_cons_zero, List.getD_cons_succ])⟩, (by simp only [g11, upd_same, upd_ne, ne_eq, Nat.reduceEqDiff, not_false_eq_true, frame0, List.getD_cons_zero, List.getD_cons_succ]), by rw [List.drop_length]; exact (by simp only [lastT, upd_same, upd_ne, ne_eq, Nat.reduceEqDiff, not_false_eq_true, frame0, List.getD_cons_zero, List.getD_cons_succ]), (by simp only [upd_same, upd_ne, ne_eq, Nat.reduceEqDiff, not_false_eq_true, frame0, List.getD_cons_zero, List.getD_cons_succ]), Ext.refl.app, none, 0, by rw [List.drop_length]; exact (by simp only [g12, List.reverse_nil, List.length_nil, upd_same, upd_ne, ne_eq, Nat.reduceEqDiff, not_false_eq_true, frame0, List.getD_cons_zero, List.getD_cons_succ]), by rw [List.drop_length]; exact Own.nil⟩ ?_
  clear g0 g1 g2 g3 g9 g11 g12 g13
  intro r fr K ⟨hr, ⟨g0, g1, g2, g3, g9⟩, g11, g14, g15, hE3, pd, kd, g12, hD⟩ hN
  rw [Ret_code l9_2.eq_1]
  refine Ret_pad ?_
  have hE13 := hE12.trans hE3
  have hlim3 := hE13.len
  have hlGK := hE3.len
  by_cases hr0 : 0 < r
  · obtain ⟨r, rfl⟩ : ∃ q, r = q + 1 := ⟨r - 1, by omega⟩
    have e1 : ((r + 1 : Nat) : Int) - 1 = (r : Int) := by omega
    rw [e1] at g15
    have hrl : r < c.length := by omega
    have hg := hE13.sl hc
    have hld := fun X => (hg.app X).loadCells encC_len hrl
    have hldj := fun X i hi => (hg.app X).loadCell (j := i) encC_len hrl hi
    have hidx := fun c (k : IntKind) (H1 : Heap) => hg.idx (c := c) (k := k) (H1 := H1) hrl
    have w2 : IntKind.i64.wrap ((r : Int) - 1) = (r : Int) - 1 := wrap_id (by omega) (by omega)
    have hdl' : (c.drop (r + 1)).reverse.length = c.length - (r + 1) := by simp
    have hll : H.length ≤ G.length := hE12.len
    obtain ⟨G', R, q1, q2, hM, hE', happ⟩ := hD.push1 (bytes := 48) hll encC_len (by decide) (gt c r) (by unfold maxBytes; omega) (by omega)
    simp only [encC] at happ
    have hrr := len_rules hM.len
    have hR : G.length ≤ R := by
      cases hpd : pd with
      | none => rw [q1 hpd]; omega
      | some a => rw [q2 a hpd]; exact (hD.block hpd).1
    have hg' := (hM.ext hE13 (by omega)).sl hc
    have hldj' := fun X i hi => (hg'.app X).loadCell (j := i) encC_len hrl hi
    have hlast : lastT (c.drop r) = if lastT (c.drop (r + 1)) < (gt c r).tm then (gt c r).tm else lastT (c.drop (r + 1)) := by
      rw [List.drop_eq_getElem_cons hrl, lastT, gt_lt hrl]
    simp only [n9, r9, g0, g1, g2, g3, g9, g11, g12, g14, g15, hidx, hld, hldj, hldj', encC, w2, happ, hlim3, hrr, nat_nn, aMinMaxAll, aMinMax, SB, Nat.reduceLT, callee, aOp, ne_eq, Nat.reduceEqDiff, aBin, aUn, if_true, if_false, reduceCtorEq, frame0, place, notTuple, Nat.reduceAdd, Nat.reduceLeDiff, resVal, dite_true, dite_false, Int.reduceEq, Int.reduceLT, Int.reduceLE]
    refine hN r _ _ ⟨by omega, ⟨(by simp only [g0, upd_same, upd_ne, ne_eq, Nat.reduceEqDiff, not_false_eq_true, frame0, List.getD_cons_zero, List.getD_cons_succ]), (by simp only [g1, upd_same, upd_ne, ne_eq, Nat.reduceEqDiff, not_false_eq_true, frame0, List.getD_cons_zero, List.getD_cons_succ]), (by simp only [g2, upd_same, upd_ne, ne_eq, Nat.reduceEqDiff, not_false_eq_true, frame0, List.getD_cons_zero, List.getD_cons_succ]), (by simp only [g3, upd_same, upd_ne, ne_eq, Nat.reduceEqDiff, not_false_eq_true, frame0, List.getD_cons_zero, List.getD_cons_succ]), (by simp only [g9, upd_same, upd_ne, ne_eq, Nat.reduceEqDiff, not_false_eq_true, frame0, List.getD_cons_zero, List.getD_cons_succ])⟩, (by simp only [g11, upd_same, upd_ne, ne_eq, Nat.reduceEqDiff, not_false_eq_true, frame0, List.getD_cons_zero, List.getD_cons_succ]), ?_, (by simp only [upd_same, upd_ne, ne_eq, Nat.reduceEqDiff, not_false_eq_true, frame0, List.getD_cons_zero, List.getD_cons_succ]), (hE' G hE3 (Nat.le_refl _)).app, some ⟨K.length + 1, 0, none⟩, loose 6, ?_, Own.new ?_ (by omega)⟩ (by omega)
    · rw [hlast]; exact (by simp only [upd_same, upd_ne, ne_eq, Nat.reduceEqDiff, not_false_eq_true, frame0, List.getD_cons_zero, List.getD_cons_succ])
    · rw [show (c.drop r).reverse.length = (c.drop (r + 1)).reverse.length + 1 by simp; omega]; exact (by simp only [upd_same, upd_ne, ne_eq, Nat.reduceEqDiff, not_false_eq_true, frame0, List.getD_cons_zero, List.getD_cons_succ])
    · rw [hrr.2.1]
      simp only [List.getD_cons_succ, List.getD_cons_zero, drop_rev (show r + 1 ≤ c.length by omega)]
  obtain rfl : r = 0 := by omega
  clear hN
  rw [List.drop_zero] at g12 g14 hD
  have hd := hD.sl encC_len
  have hsr : s.reverse.Perm s := List.reverse_perm s
  have hcr : c.reverse.Perm c := List.reverse_perm c
  have hck2 : checkS l t s.reverse c.reverse = 0 := by simp [checkS, r1, r2, rightN_perm hsr r3, rightC_perm hcr r4]
  obtain ⟨d2, po2, Y2, hp2, hlt2, hout2, hse2⟩ := Settle_ok (lim := H.length) (k1 := k1) (k2 := k2) (k3 := ku) (k4 := kd) (hE13.sl hl) (hE13.sl ht) (hE3.sl hu) hd (by omega) (by omega) (by simp; omega) (by simp; omega) hlim3 hck2 (fun hne h => by rw [h] at hd; exact hne hd)
  obtain rfl : d2 = d := sorted_unique (hp2.trans (hcr.trans hp.symm)) hlt2 hlt
  rw [goO_perm hsr r3] at hout2
  obtain ⟨L, hL⟩ : ∃ L, L = K ++ Y2 := ⟨_, rfl⟩
  have hE4 : Ext K L := ⟨Y2, hL⟩
  have hE14 := hE13.trans hE4
  rw [← hL] at hout2
  have hse2' : ∀ Q, CallR E false H.length 25 [.slice pl l.length k1, .slice pt t.length k2, .slice pu s.reverse.length ku, .slice pd c.reverse.length kd] (K ++ []) Q = Q (.tuple #[.slice po2 c.length c.length, .int .i64 0]) (L ++ []) := fun Q => by
    rw [List.append_nil, List.append_nil, hL, hse2 Q, List.length_reverse]
  have hoL : Sl L encO 3 po (goO l t s [] d2) := (hE2.trans (hE3.trans hE4)).sl hout
  have hso : ∀ mp lim X Q, CallR E mp lim 30 [.slice po c.length c.length, .slice po2 c.length c.length] (L ++ X) Q = Q (.bool true) (L ++ X) := fun mp lim X Q => by
    have := sameOut_ok (mp := mp) (lim := lim) (k1 := c.length) (k2 := c.length) (Q := Q) (hoL.app X) (hout2.app X) (by omega)
    rw [hgol] at this
    exact this
  have htm : ∀ x ∈ c, 0 ≤ x.tm ∧ x.tm ≤ 1051898399 := fun x hx => by
    have := (rightC_mem r4 hx).1
    simp only [okC, allIn, inB, Bool.and_eq_true, decide_eq_true_eq, Bool.and_true] at this; omega
  have hlb := lastT_bd (m := 1051898399) (by decide) (c := c) fun x hx => (htm x hx).2
  have hm1' : ¬ (0 : Int) ≤ 0 - 1 := by decide
  by_cases hc0 : (c.length : Int) = 0
  · simp only [n9, r9, g0, g1, g2, g3, g9, g11, g12, g14, g15, hm1', hse2', hso, hc0, Int.ofNat_eq_zero, SB, Nat.reduceLT, callee, aOp, ne_eq, Nat.reduceEqDiff, aBin, aUn, if_true, if_false, reduceCtorEq, frame0, place, notTuple, Nat.reduceAdd, Nat.reduceLeDiff, resVal, dite_true, dite_false, Int.reduceEq, Int.reduceLT, Int.reduceLE]
  by_cases hmx : lastT c = 1051898399
  · simp only [n9, r9, g0, g1, g2, g3, g9, g11, g12, g14, g15, hm1', hse2', hso, hc0, hmx, SB, Nat.reduceLT, callee, aOp, ne_eq, Nat.reduceEqDiff, aBin, aUn, if_true, if_false, reduceCtorEq, frame0, place, notTuple, Nat.reduceAdd, Nat.reduceLeDiff, resVal, dite_true, dite_false, Int.reduceEq, Int.reduceLT, Int.reduceLE]
  have hc0' : 0 < c.length := by omega
  have hx0 : gt c 0 ∈ c := gt_mem hc0'
  have hgL := hE14.sl hc
  have hldL := fun X => (hgL.app X).loadCells (i := 0) encC_len hc0'
  have hidL : ∀ k (kk : IntKind) (H1 : Heap), idxK 6 (.slice pk c.length k) (.int kk 0) H1 = some (.pointer (some (elt pk 6 0)), H1) := fun k kk H1 => hgL.idx (i := 0) (c := k) (k := kk) (H1 := H1) hc0'
  have w4 : IntKind.i64.wrap (lastT c + 1) = lastT c + 1 := wrap_id (by omega) (by omega)
  have hlL : H.length ≤ L.length := hE14.len
  generalize hgx : gt c 0 = x at *
  simp only [n9, r9, g0, g1, g2, g3, g9, g11, g12, g14, g15, hm1', hse2', hso, hc0, hmx, hidL, hldL, encC, w4, hlL, SB, Nat.reduceLT, callee, aOp, ne_eq, Nat.reduceEqDiff, aBin, aUn, if_true, if_false, reduceCtorEq, frame0, place, notTuple, Nat.reduceAdd, Nat.reduceLeDiff, resVal, dite_true, dite_false, Int.reduceEq, Int.reduceLT, Int.reduceLE]
  let mid : Nat → List Value := fun n => [.int .i64 ((n : Int) + 1), .int .i64 x.item, .int .i64 (lastT c + 1), .int .u8 x.kind, .int .i64 x.post, .int .i64 x.val]
  have hids : (c.map (·.id)).Nodup := by
    rw [List.Nodup, List.pairwise_map]
    exact rightC_ids r4
  -- the first ID that is free
  refine Ret_rounds (fun n => c.length + 1 - n) (fun n fr M => (fr 0 = .slice pl l.length k1 ∧ fr 1 = .slice pt t.length k2 ∧ fr 2 = .slice ps s.length k3 ∧ fr 3 = .slice pk c.length k4 ∧ fr 9 = .slice po c.length c.length) ∧ fr 18 = .pointer (some ⟨L.length, 0, none⟩) ∧ Ext L M ∧ L.length < M.length ∧ hget M L.length = .cells false (mid n) ∧ ∀ i : Nat, i < n → ((i : Int) + 1) ∈ c.map (·.id))
    0 ⟨⟨(by simp only [g0, upd_same, upd_ne, ne_eq, Nat.reduceEqDiff, not_false_eq_true, frame0, List.getD_cons_zero, List.getD_cons_succ]), (by simp only [g1, upd_same, upd_ne, ne_eq, Nat.reduceEqDiff, not_false_eq_true, frame0, List.getD_cons_zero, List.getD_cons_succ]), (by simp only [g2, upd_same, upd_ne, ne_eq, Nat.reduceEqDiff, not_false_eq_true, frame0, List.getD_cons_zero, List.getD_cons_succ]), (by simp only [g3, upd_same, upd_ne, ne_eq, Nat.reduceEqDiff, not_false_eq_true, frame0, List.getD_cons_zero, List.getD_cons_succ]), (by simp only [g9, upd_same, upd_ne, ne_eq, Nat.reduceEqDiff, not_false_eq_true, frame0, List.getD_cons_zero, List.getD_cons_succ])⟩, (by simp only [upd_same, upd_ne, ne_eq, Nat.reduceEqDiff, not_false_eq_true, frame0, List.getD_cons_zero, List.getD_cons_succ]), Ext.refl.app, by simp, by rw [hget_new0]; rfl, fun i hi => absurd hi (Nat.not_lt_zero _)⟩ ?_
  clear g0 g1 g2 g3 g9 g11 g12 g14 g15
  intro n fr M ⟨⟨g0, g1, g2, g3, g9⟩, g18, hE5, hLM, hmid, hall⟩ hN
  rw [Ret_code l9_1.eq_1]
  refine Ret_pad ?_
  have hE15 := hE14.trans hE5
  have hnl : n ≤ c.length := by have := ids_free n _ hall hids; simpa using this
  have hf := fun mp lim X Q => findC_ok (mp := mp) (lim := lim) (cap := k4) (n := (n : Int) + 1) (Q := Q) ((hE15.sl hc).app X) (by omega)
  have hrd : ∀ X, hget (M ++ X) L.length = .cells false (mid n) := fun X => by rw [hget_old hLM]; exact hmid
  simp only [mid] at hrd
  have w5 : IntKind.i64.wrap ((n : Int) + 1 + 1) = ((n + 1 : Nat) : Int) + 1 := by rw [wrap_id (by omega) (by omega)]; omega
  cases hfd : c.find? (fun x => decide (x.id = (n : Int) + 1)) with
  | some y =>
    have hyi : y.id = (n : Int) + 1 := by simpa using List.find?_some hfd
    have hym := List.mem_of_find?_eq_some hfd
    obtain ⟨M', hset, hgM, hMM⟩ := mut_set hLM (.cells false (mid (n + 1)))
    have hrr := len_rules hMM.len
    simp only [mid] at hset
    have hlM : H.length ≤ M.length := hE15.len
    simp only [n9, r9, g0, g1, g2, g3, g9, g18, hf, hfd, Option.getD_some, Option.isSome_some, encC, hrd, w5, hset, hrr, hlM, hlL, SB, Nat.reduceLT, callee, aOp, ne_eq, Nat.reduceEqDiff, aBin, aUn, if_true, if_false, reduceCtorEq, frame0, place, notTuple, Nat.reduceAdd, Nat.reduceLeDiff, resVal, dite_true, dite_false, Int.reduceEq, Int.reduceLT, Int.reduceLE]
    refine hN (n + 1) _ _ ⟨⟨(by simp only [g0, upd_same, upd_ne, ne_eq, Nat.reduceEqDiff, not_false_eq_true, frame0, List.getD_cons_zero, List.getD_cons_succ]), (by simp only [g1, upd_same, upd_ne, ne_eq, Nat.reduceEqDiff, not_false_eq_true, frame0, List.getD_cons_zero, List.getD_cons_succ]), (by simp only [g2, upd_same, upd_ne, ne_eq, Nat.reduceEqDiff, not_false_eq_true, frame0, List.getD_cons_zero, List.getD_cons_succ]), (by simp only [g3, upd_same, upd_ne, ne_eq, Nat.reduceEqDiff, not_false_eq_true, frame0, List.getD_cons_zero, List.getD_cons_succ]), (by simp only [g9, upd_same, upd_ne, ne_eq, Nat.reduceEqDiff, not_false_eq_true, frame0, List.getD_cons_zero, List.getD_cons_succ])⟩, (by simp only [g18, upd_same, upd_ne, ne_eq, Nat.reduceEqDiff, not_false_eq_true, frame0, List.getD_cons_zero, List.getD_cons_succ]), (hMM.ext hE5 (Nat.le_refl _)).app, by rw [List.length_append]; have := hMM.len; omega, by rw [hget_old (by have := hMM.len; omega)]; exact hgM, fun i hi => ?_⟩ (by omega)
    by_cases e : i = n
    · subst e; exact List.mem_map.2 ⟨y, hym, hyi⟩
    · exact hall i (by omega)
  | none =>
    clear hN
    have hfree : ((n : Int) + 1) ∉ c.map (·.id) := by
      intro hm
      obtain ⟨y, hy, e⟩ := List.mem_map.1 hm
      have := List.find?_eq_none.1 hfd y hy
      simp [e] at this
    have hlM : H.length ≤ M.length := hE15.len
    let more : Clm := ⟨(n : Int) + 1, x.item, lastT c + 1, x.kind, x.post, x.val⟩
    have hxr := rightC_mem r4 hx0
    have hmr : okC more = true ∧ (more.kind = 1 ∨ more.kind = 2) := by
      refine ⟨?_, hxr.2⟩
      have := hxr.1
      simp only [okC, allIn, inB, Bool.and_eq_true, decide_eq_true_eq, Bool.and_true] at this ⊢
      simp only [more]
      omega
    have hck3 : checkS l t s (c ++ [more]) = 0 := by
      have : rightC (c ++ [more]) = true := by
        refine rightC_of (by simp; omega) (fun y hy => ?_) ?_
        · rcases List.mem_append.1 hy with h | h
          · exact rightC_mem r4 h
          · rw [List.mem_singleton.1 h]; exact hmr
        · rw [List.pairwise_append]
          refine ⟨rightC_ids r4, by simp, fun a ha b hb => ?_⟩
          rw [List.mem_singleton.1 hb]
          intro e
          exact hfree (List.mem_map.2 ⟨a, ha, e⟩)
      simp [checkS, r1, r2, r3, this]
    have hsort3 : (d2 ++ [more]).Pairwise Lt := by
      rw [List.pairwise_append]
      refine ⟨hlt, by simp, fun a ha b hb => ?_⟩
      rw [List.mem_singleton.1 hb]
      have := lastT_le (hp.subset ha)
      left; simp only [more]; omega
    have hgo3 : goO l t s [] (d2 ++ [more]) = goO l t s [] d2 ++ [outO l t s (paidA l t s d2) more] := goO_snoc d2 []
    have hset3 : ∀ (b0 b1 b2 b3 : Blk) (k : Nat) (Q : Value → Heap → Prop), (∀ b o Z, Sl (M ++ (b0 :: b1 :: b2 :: b3 :: .cells false (c.flatMap encC ++ encC more) :: Z)) encO 3 (some ⟨b, o, none⟩) (goO l t s [] d2) → Q (.tuple #[.slice (some ⟨b, o, none⟩) (c.length + 1) (c.length + 1), .int .i64 0]) (M ++ (b0 :: b1 :: b2 :: b3 :: .cells false (c.flatMap encC ++ encC more) :: Z))) →
        CallR E false H.length 25 [.slice pl l.length k1, .slice pt t.length k2, .slice ps s.length k3, .slice (some ⟨M.length + 4, 0, none⟩) (c.length + 1) k] (M ++ [b0, b1, b2, b3, .cells false (c.flatMap encC ++ encC more)]) Q := by
      intro b0 b1 b2 b3 k Q hQ
      have hcm : Sl (M ++ [b0, b1, b2, b3, .cells false (c.flatMap encC ++ encC more)]) encC 6 (some ⟨M.length + 4, 0, none⟩) (c ++ [more]) := Sl.lit encC_len (by rw [hget_new]; rfl) (by rw [hget_new]; simp [cellsOf])
      obtain ⟨d3, po3, Y3, hp3, hlt3, hout3, hse3⟩ := Settle_ok (lim := H.length) (k1 := k1) (k2 := k2) (k3 := k3) (k4 := k) ((hE15.sl hl).app _) ((hE15.sl ht).app _) ((hE15.sl hs).app _) hcm (by omega) (by omega) (by omega) (by simp; omega) (by rw [List.length_append]; omega) hck3 (fun _ h => by cases h)
      obtain rfl : d3 = d2 ++ [more] := sorted_unique (hp3.trans (List.Perm.append_right [more] hp.symm)) hlt3 hsort3
      rw [hgo3] at hout3
      rw [List.length_append, List.length_singleton] at hse3
      rw [hse3 Q]
      cases po3 with
      | none => simp only [Sl, List.append_eq_nil_iff] at hout3; exact absurd hout3.2 (by simp)
      | some a =>
        obtain ⟨b, o, sp⟩ := a
        have hsp : sp = none := hout3.1
        subst hsp
        have := hQ b o Y3 (by
          have := Sl.front encO_len hout3
          rwa [List.append_assoc] at this)
        rw [List.append_assoc]
        exact this
    have hpk : pk ≠ none := hpn (by intro h; rw [h] at hc0'; simp at hc0')
    have ha0 : ∀ (X : Heap) dd cc, hget (M ++ X) (M.length + 1) = .cells false [] → aAppend H.length (some dd) 6 48 false (.slice (some ⟨M.length + 1, 0, none⟩) 0 0) (.slice pk c.length cc) (M ++ X) = some (.slice (some ⟨dd, 0, none⟩) c.length (loose 6), (M ++ X).set dd (.cells false (c.flatMap encC))) := fun X dd cc hb =>
      append_at hb ((hE15.sl hc).app X) hpk (by omega) (by unfold maxBytes; omega) (by omega)
    have ha1 : ∀ (X : Heap) dd k, hget (M ++ X) (M.length + 2) = .cells false (c.flatMap encC) → hget (M ++ X) (M.length + 3) = .cells false [.int .i64 ((n : Int) + 1), .int .i64 x.item, .int .i64 (lastT c + 1), .int .u8 x.kind, .int .i64 x.post, .int .i64 x.val] → aAppend H.length (some dd) 6 48 false (.slice (some ⟨M.length + 2, 0, none⟩) c.length (loose 6)) (.slice (some ⟨M.length + 3, 0, none⟩) 1 k) (M ++ X) =
        some (.slice (some ⟨dd, 0, none⟩) (c.length + 1) (loose 6), ((M ++ X).set (M.length + 2) .dead).set dd (.cells false (c.flatMap encC ++ encC more))) := fun X dd k q1 q2 =>
      append_on (new := encC more) q1 (by omega) (by rw [q2]; rfl) (flat_len encC_len c) rfl (by unfold maxBytes; omega) (by omega)
    have hp4 : List.replicate 4 Blk.dead = [.dead, .dead, .dead, .dead] := rfl
    have ha1' : ∀ (X : Heap) dd k, hget (M ++ X) (M.length + 2) = .cells false (c.flatMap encC) → hget (M ++ X) (M.length + 3) = .cells false [.int .i64 ((n : Int) + 1), .int .i64 x.item, .int .i64 (lastT c + 1), .int .u8 x.kind, .int .i64 x.post, .int .i64 x.val] → aAppend H.length (some dd) 6 48 false (.slice (some ⟨M.length + 2, 0, none⟩) c.length (loose 6)) (.slice (some ⟨M.length + 3, 0, none⟩) 1 k) (M ++ X) =
        some (.slice (some ⟨dd, 0, none⟩) (c.length + 1) (loose 6), ((M ++ X).set (M.length + 2) .dead).set dd (.cells false (c.flatMap encC ++ [.int .i64 ((n : Int) + 1), .int .i64 x.item, .int .i64 (lastT c + 1), .int .u8 x.kind, .int .i64 x.post, .int .i64 x.val]))) := ha1
    simp only [n9, r9, g0, g1, g2, g3, g9, g18, hf, hfd, Option.getD_none, Option.isSome_none, encC, hrd, hlM, hlL, ha0, ha1', hp4, SB, Nat.reduceLT, callee, aOp, ne_eq, Nat.reduceEqDiff, aBin, aUn, if_true, if_false, reduceCtorEq, frame0, place, notTuple, Nat.reduceAdd, Nat.reduceLeDiff, resVal, dite_true, dite_false, Int.reduceEq, Int.reduceLT, Int.reduceLE]
    refine hset3 _ _ _ _ _ _ fun b o Z hsl => ?_
    have hcl3 : ¬ c.length + 1 = loose 3 := by unfold loose; omega
    have hcl4 : c.length + 1 < 2 ^ 62 := by omega
    have hcle : (c.length : Int) ≤ ((c.length + 1 : Nat) : Int) := by omega
    have hcle' : c.length ≤ c.length + 1 := by omega
    have hcz : ¬ c.length + 1 = 0 := by omega
    have w6 : IntKind.i64.wrap ((c.length : Int) + 1) = ((c.length + 1 : Nat) : Int) := wrap_nat (by omega)
    have hso3 : ∀ mp lim X Q, Sl (M ++ X) encO 3 (some ⟨b, o, none⟩) (goO l t s [] d2) → CallR E mp lim 30 [.slice (some ⟨b, o, none⟩) c.length (c.length + 1), .slice po c.length c.length] (M ++ X) Q = Q (.bool true) (M ++ X) := fun mp lim X Q h => by
      have := sameOut_ok (mp := mp) (lim := lim) (k1 := c.length + 1) (k2 := c.length) (Q := Q) h ((hE5.sl hoL).app X) (by omega)
      rw [hgol] at this
      exact this
    simp only [n9, r9, g9, aSliceS, bounds_V, bv_010, nat_nn, Int.toNat_natCast, hcl3, hcl4, hcle, hcle', hcz, w6, Nat.zero_mul, Nat.sub_zero, hso3, hsl, SB, Nat.reduceLT, callee, aOp, ne_eq, Nat.reduceEqDiff, aBin, aUn, if_true, if_false, reduceCtorEq, frame0, place, notTuple, Nat.reduceAdd, Nat.reduceLeDiff, resVal, dite_true, dite_false, Int.reduceEq, Int.reduceLT, Int.reduceLE]
end Go.Proofs.Ytlmoijifgbkapaa.Fn
