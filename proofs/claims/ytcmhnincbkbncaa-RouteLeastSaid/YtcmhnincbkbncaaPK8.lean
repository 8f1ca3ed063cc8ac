/-
  Joined texts, 8 of 9. A part of the claim that the last text states.
-/
import Derived.Test.YtcmhnincbkbncaaPK7
namespace Go.Proofs.Ytcmhnincbkbncaa.Fn
open Go.AM Go.AM.Sym Go.Net
set_option maxRecDepth 100000
set_option linter.unusedVariables false
set_option linter.unusedSimpArgs false
set_option maxHeartbeats 4000000

theorem sliceV_nil {e : Nat} : sliceV e (.slice none 0 0) none (some (.int .i64 0)) none = some (.slice none 0 0) := by
  unfold sliceV aSliceS
  have h : ¬ 0 = loose e := by unfold loose; omega
  simp only [if_neg h, bounds_V, Option.map_some, Option.map_none, unV]
  rw [bv_010 (by decide) (by decide)]
  simp
theorem sliceV_none {e b n : Nat} : sliceV e (.slice (some ⟨b, 0, none⟩) n (loose e)) none (some (.int .i64 0)) none = some (.slice (some ⟨b, 0, none⟩) 0 (loose e)) := by
  unfold sliceV aSliceS
  simp only [if_true, bounds_V, Option.map_some, Option.map_none, unV]
  rw [bv_010 (by decide) (by omega)]
  simp [addr_add]
theorem grow_ok [OB] {lim n : Nat} {H : Heap} {Q : Value → Heap → Prop} (hn : n < 2 ^ 30) (hlim : lim ≤ H.length)
    (h0 : n = 0 → ∀ X, Q (.slice none 0 0) (H ++ X)) (h1 : n ≠ 0 → ∀ z, Q (.slice (some ⟨H.length, 0, none⟩) 0 (loose 8)) (H ++ [.cells false z])) :
    CallR E false lim 104 [.slice none 0 0, .int .i64 (n : Int)] H Q := by
  refine runs' (by decide) e104 rfl ?_
  rw [b104, c104]
  have hc : ¬ (n : Int) < 0 := by omega
  have w1 : IntKind.i64.wrap (n : Int) = (n : Int) := wrap_id (by omega) (by omega)
  have w0 : IntKind.i64.wrap 0 = 0 := by decide
  by_cases hz : n = 0
  · subst hz
    simp only [n104, r104, w0, Int.sub_self, show (0 : Nat) < 2 ^ 62 by decide, SB, Nat.reduceLT, callee, aOp, ne_eq, Nat.reduceEqDiff, aBin, aUn, if_true, if_false, reduceCtorEq, frame0, place, notTuple, Nat.reduceAdd, Nat.reduceLeDiff, resVal, dite_true, dite_false, Int.reduceEq, Int.reduceLT, Int.reduceLE]
    exact h0 rfl _
  · have hp : 0 < n := by omega
    simp only [n104, r104, hc, w1, w0, Int.sub_self, Int.sub_zero, hp, show (0 : Nat) < 2 ^ 62 by decide, sliceV_nil, sliceV_none, show 0 < (n : Int) ∧ (n : Int) * 64 ≤ 2 ^ 45 ∧ (n : Int) < 2 ^ 62 by omega, SB, Nat.reduceLT, callee, aOp, ne_eq, Nat.reduceEqDiff, aBin, aUn, if_true, if_false, reduceCtorEq, frame0, place, notTuple, Nat.reduceAdd, Nat.reduceLeDiff, resVal, dite_true, dite_false, Int.reduceEq, Int.reduceLT, Int.reduceLE]
    exact h1 hz _

/-- A slice of one's own that may have been made with room. -/
def OwnZ {α : Type} (lim : Nat) (G : Heap) (enc : α → List Value) (e : Nat) (p : Option Addr) (cap : Nat) (l : List α) : Prop :=
  Own lim G enc e p cap l ∨ (l = [] ∧ cap = loose e ∧ ∃ R z, p = some ⟨R, 0, none⟩ ∧ hget G R = .cells false z ∧ lim ≤ R)
section
variable {α : Type} {lim lim' e bytes cap : Nat} {G : Heap} {enc : α → List Value} {p : Option Addr} {l : List α}
theorem OwnZ.sl (h : OwnZ lim G enc e p cap l) (he : ∀ x, (enc x).length = e) : Sl G enc e p l := by
  rcases h with h | ⟨rfl, _, R, z, rfl, h, _⟩
  · exact h.sl he
  · exact ⟨rfl, fun hh => absurd rfl hh⟩
theorem OwnZ.app (h : OwnZ lim G enc e p cap l) (X : Heap) : OwnZ lim (G ++ X) enc e p cap l := by
  rcases h with h | ⟨h1, h2, R, z, h3, h4, h5⟩
  · exact .inl (h.app X)
  · exact .inr ⟨h1, h2, R, z, h3, (Ext.refl.app).cells h4, h5⟩
theorem OwnZ.le (h : OwnZ lim G enc e p cap l) (hl : lim' ≤ lim) : OwnZ lim' G enc e p cap l := by
  rcases h with h | ⟨h1, h2, R, z, h3, h4, h5⟩
  · exact .inl (h.le hl)
  · exact .inr ⟨h1, h2, R, z, h3, h4, by omega⟩
theorem OwnZ.block (h : OwnZ lim G enc e p cap l) {a : Addr} (ha : p = some a) : lim ≤ a.block ∧ a.block < G.length := by
  rcases h with h | ⟨h1, h2, R, z, h3, h4, h5⟩
  · exact h.block ha
  · rw [h3] at ha; cases ha; exact ⟨h5, hget_alive h4⟩
theorem OwnZ.chg {A : List Nat} {H' : Heap} (h : OwnZ lim G enc e p cap l) (hc : Chg A G H') (hp : ∀ a, p = some a → a.block ∉ A) : OwnZ lim H' enc e p cap l := by
  rcases h with h | ⟨h1, h2, R, z, h3, h4, h5⟩
  · exact .inl (h.chg hc hp)
  · exact .inr ⟨h1, h2, R, z, h3, hc.cells h4 (hp _ h3), h5⟩
theorem OwnZ.capOk (h : OwnZ lim G enc e p cap l) : CapOk e cap l.length := by
  rcases h with h | ⟨rfl, rfl, R, z, h3, h4, h5⟩
  · exact h.capOk
  · exact .inl rfl
theorem OwnZ.more (h : OwnZ lim G enc e p cap l) (hll : lim' ≤ lim) (he : ∀ x, (enc x).length = e) (he0 : e ≠ 0) (m : List α) (hb : (l.length + m.length) * bytes ≤ maxBytes) (hn : l.length + m.length < 2 ^ 61) (hlG : lim ≤ G.length)
    (X : Heap) {x : Value} {str : Bool} (h1 : firstCells (G ++ X) e str x = some (m.flatMap enc)) (h2 : lenOf x = some m.length) :
    ∃ G2 p' cap', aAppend lim' none e bytes str (.slice p l.length cap) x (G ++ X) = some (.slice p' (l.length + m.length) cap', G2 ++ []) ∧ OwnZ lim (G2 ++ []) enc e p' cap' (l ++ m) ∧ (∀ A H0, H0.length ≤ lim → Chg A H0 G → Chg A H0 (G2 ++ [])) ∧
      (∀ j, j < G.length → (∀ a, p = some a → j ≠ a.block) → hget (G2 ++ []) j = hget G j) ∧ G.length ≤ G2.length := by
  rcases h with h | ⟨rfl, rfl, R, z, rfl, h4, h5⟩
  · obtain ⟨G2, p', cap', k1, k2, k3⟩ := h.more (lim' := lim') (bytes := bytes) hll he he0 m hb hn hlG X h1 h2
    exact ⟨G2, p', cap', k1, .inl k2, k3⟩
  · have hRl := hget_alive h4
    have hR' : hget (G ++ X) R = .cells false z := by rw [hget_old hRl]; exact h4
    by_cases hm : m = []
    · subst hm
      refine ⟨G ++ X, some ⟨R, 0, none⟩, loose e, ?_, by rw [List.append_nil]; exact .inr ⟨rfl, rfl, R, z, rfl, hR', h5⟩, fun A H0 q1 q2 => by rw [List.append_nil]; exact q2.app, fun j hj _ => by rw [List.append_nil, hget_old hj], by simp⟩
      simp only [List.length_nil, Nat.add_zero] at hb hn h2 ⊢
      simp only [aAppend, h1, h2, Nat.add_zero, if_true, List.append_nil]
      rw [if_neg (by unfold loose; omega)]
    · have hm0 : ¬ m.length = 0 := fun q => hm (List.length_eq_zero_iff.1 q)
      have hold : AM.loadCells (G ++ X) ⟨R, 0, none⟩ (0 * e) = some [] := by
        simp only [loadCells_lit, hR', Nat.zero_mul, Nat.add_zero, Nat.zero_le, if_true, List.take_zero]
      have hmt : Mut G (G.set R .dead) R := ⟨by simp, fun j hj => hget_set_ne hj⟩
      refine ⟨G.set R .dead ++ (X ++ [.cells false (m.flatMap enc)]), some ⟨(G ++ X).length, 0, none⟩, loose e, ?_, .inl ?_, fun A H0 q1 q2 => by rw [List.append_nil]; exact (q2.mut hmt (.inr (by omega))).app, fun j hj hp => by
        rw [List.append_nil, hget_old (by simpa using hj)]; exact hget_set_ne (hp _ rfl), by simp⟩
      · simp only [List.length_nil, Nat.zero_add] at hb hn ⊢
        simp only [aAppend, h1, h2, hold, hR', hm0, if_false, if_true, Nat.zero_add]
        rw [if_neg (by unfold loose; omega)]
        simp [show lim' ≤ R by omega, place, List.set_append_left _ _ hRl, List.append_assoc]
      · rw [List.append_nil, List.nil_append]
        refine Own.new ?_ (by simp; omega)
        rw [← List.append_assoc, show (G ++ X).length = (G.set R .dead ++ X).length by simp]; exact hget_new0
end

theorem concat_tail [OB] {lim B c1 c2 cap : Nat} {o : Bool} {q p1 p2 : Option Addr} {m1 m2 : List Leg} {H G : Heap} {fr : Nat → Value} {K : List AItem} {Z : Value → Heap → Prop} (hB : hget H B = .cells o [.slice p1 m1.length c1, .slice p2 m2.length c2]) (s1 : Sl H encL 8 p1 m1) (s2 : Sl H encL 8 p2 m2) (hn : m1.length + m2.length < 2 ^ 20) (hlim : lim ≤ H.length)
    (hE : Chg [] H G) (hO : OwnZ H.length G encL 8 q cap []) (f6 : fr 6 = .slice q 0 cap) (f25 : fr 25 = .slice (some ⟨B, 0, none⟩) 2 2) (f26 : fr 26 = .int .i64 2) (f27 : fr 27 = .int .i64 0)
    (hR : ∀ fr' G' q' cap', Chg [] H G' → OwnZ H.length G' encL 8 q' cap' (m1 ++ m2) → fr' 6 = .slice q' (m1.length + m2.length) cap' → Ret E a70 lim K fr' (G' ++ []) Z) :
    Ret E a70 lim (.code (.loop l70_1) :: .inBlock 2 :: K) fr G Z := by
  have i0 : ∀ k (H1 : Heap), idxK 1 (.slice (some ⟨B, 0, none⟩) 2 2) (.int k 0) H1 = some (.pointer (some ⟨B, 0, none⟩), H1) := fun k H1 => by simp [idxK, addr_add]
  have i1 : ∀ k (H1 : Heap), idxK 1 (.slice (some ⟨B, 0, none⟩) 2 2) (.int k 1) H1 = some (.pointer (some ⟨B, 1, none⟩), H1) := fun k H1 => by simp [idxK, addr_add]
  have w3 : IntKind.i64.wrap (0 + 1) = 1 := by decide
  have w4 : IntKind.i64.wrap (1 + 1) = 2 := by decide
  have hBX := fun X => (Ext.refl.app (X := X)).cells (hE.cells hB (by simp))
  have hl := hE.len
  obtain ⟨G2, q2, k2, e2, O2, C2, _, l2⟩ := hO.more (lim' := lim) (bytes := 64) hlim encL_len (by decide) m1 (by unfold maxBytes; simp; omega) (by simp; omega) hl [] (x := .slice p1 m1.length c1) (str := false) (first_slice ((hE.ext.sl s1).app _)) rfl
  have E2 := C2 [] H (Nat.le_refl _) hE
  rw [List.append_nil] at E2 O2
  have hBX2 := fun X => (Ext.refl.app (X := X)).cells (E2.cells hB (by simp))
  obtain ⟨G3, q3, k3, e3, O3, C3, _, l3⟩ := O2.more (lim' := lim) (bytes := 64) hlim encL_len (by decide) m2 (by unfold maxBytes; simp; omega) (by simp; omega) (by omega) [] (x := .slice p2 m2.length c2) (str := false) (first_slice ((E2.ext.sl s2).app _)) rfl
  have E3 := C3 [] H (Nat.le_refl _) E2
  rw [List.append_nil] at E3 O3
  simp only [List.length_nil, Nat.zero_add, List.nil_append] at e2 e3 O3
  refine Ret_pad ?_
  rw [Ret_loop, Ret_code l70_1.eq_1]
  simp only [n70, r70, f6, f25, f26, f27, hBX, i0, w3, e2, SB, Nat.reduceLT, callee, aOp, ne_eq, Nat.reduceEqDiff, aBin, aUn, if_true, if_false, reduceCtorEq, frame0, place, notTuple, Nat.reduceAdd, Nat.reduceLeDiff, resVal, dite_true, dite_false, Int.reduceEq, Int.reduceLT, Int.reduceLE]
  rw [Ret_inLoop, Ret_code l70_1.eq_1]
  simp only [n70, r70, f6, f25, f26, f27, hBX2, i1, w4, e3, SB, Nat.reduceLT, callee, aOp, ne_eq, Nat.reduceEqDiff, aBin, aUn, if_true, if_false, reduceCtorEq, frame0, place, notTuple, Nat.reduceAdd, Nat.reduceLeDiff, resVal, dite_true, dite_false, Int.reduceEq, Int.reduceLT, Int.reduceLE]
  rw [Ret_inLoop, Ret_code l70_1.eq_1]
  simp only [n70, r70, f6, f25, f26, f27, SB, Nat.reduceLT, callee, aOp, ne_eq, Nat.reduceEqDiff, aBin, aUn, if_true, if_false, reduceCtorEq, frame0, place, notTuple, Nat.reduceAdd, Nat.reduceLeDiff, resVal, dite_true, dite_false, Int.reduceEq, Int.reduceLT, Int.reduceLE]
  exact hR _ _ _ _ E3 O3 (by simp only [FB, Nat.reduceEqDiff])

theorem concat_ok [OB] {lim B c1 c2 : Nat} {o : Bool} {p1 p2 : Option Addr} {m1 m2 : List Leg} {H : Heap} {Q : Value → Heap → Prop} (hB : hget H B = .cells o [.slice p1 m1.length c1, .slice p2 m2.length c2]) (s1 : Sl H encL 8 p1 m1) (s2 : Sl H encL 8 p2 m2) (hn : m1.length + m2.length < 2 ^ 20) (hlim : lim ≤ H.length)
    (hQ : ∀ H' q cap, Chg [] H H' → OwnZ H.length H' encL 8 q cap (m1 ++ m2) → Q (.slice q (m1.length + m2.length) cap) H') :
    CallR E false lim 70 [.slice (some ⟨B, 0, none⟩) 2 2] H Q := by
  refine runs' (by decide) e70 rfl ?_
  rw [b70, c70]
  have hBX := fun X => (Ext.refl.app (X := X)).cells hB
  have w1 : IntKind.i64.wrap (0 + (m1.length : Int)) = (m1.length : Int) := by rw [Int.zero_add]; exact wrap_id (by omega) (by omega)
  have w2 : IntKind.i64.wrap ((m1.length : Int) + (m2.length : Int)) = ((m1.length + m2.length : Nat) : Int) := by rw [wrap_id (by omega) (by omega)]; omega
  have n1 : ¬ (m1.length : Int) < 0 := by omega
  have n2 : ¬ ((m1.length + m2.length : Nat) : Int) < 0 := by omega
  have i0 : ∀ k (H1 : Heap), idxK 1 (.slice (some ⟨B, 0, none⟩) 2 2) (.int k 0) H1 = some (.pointer (some ⟨B, 0, none⟩), H1) := fun k H1 => by simp [idxK, addr_add]
  have i1 : ∀ k (H1 : Heap), idxK 1 (.slice (some ⟨B, 0, none⟩) 2 2) (.int k 1) H1 = some (.pointer (some ⟨B, 1, none⟩), H1) := fun k H1 => by simp [idxK, addr_add]
  have w3 : IntKind.i64.wrap (0 + 1) = 1 := by decide
  have w4 : IntKind.i64.wrap (1 + 1) = 2 := by decide
  simp only [n70, r70, SB, Nat.reduceLT, callee, aOp, ne_eq, Nat.reduceEqDiff, aBin, aUn, if_true, if_false, reduceCtorEq, frame0, place, notTuple, Nat.reduceAdd, Nat.reduceLeDiff, resVal, dite_true, dite_false, Int.reduceEq, Int.reduceLT, Int.reduceLE]
  rw [Ret_loop, Ret_code l70_2.eq_1]
  simp only [n70, r70, hBX, i0, w1, w3, n1, SB, Nat.reduceLT, callee, aOp, ne_eq, Nat.reduceEqDiff, aBin, aUn, if_true, if_false, reduceCtorEq, frame0, place, notTuple, Nat.reduceAdd, Nat.reduceLeDiff, resVal, dite_true, dite_false, Int.reduceEq, Int.reduceLT, Int.reduceLE]
  rw [Ret_inLoop, Ret_code l70_2.eq_1]
  simp only [n70, r70, hBX, i1, w2, w4, n2, SB, Nat.reduceLT, callee, aOp, ne_eq, Nat.reduceEqDiff, aBin, aUn, if_true, if_false, reduceCtorEq, frame0, place, notTuple, Nat.reduceAdd, Nat.reduceLeDiff, resVal, dite_true, dite_false, Int.reduceEq, Int.reduceLT, Int.reduceLE]
  rw [Ret_inLoop, Ret_code l70_2.eq_1]
  simp only [n70, r70, SB, Nat.reduceLT, callee, aOp, ne_eq, Nat.reduceEqDiff, aBin, aUn, if_true, if_false, reduceCtorEq, frame0, place, notTuple, Nat.reduceAdd, Nat.reduceLeDiff, resVal, dite_true, dite_false, Int.reduceEq, Int.reduceLT, Int.reduceLE]
  rw [List.append_nil]
  refine grow_ok (by omega) hlim (fun h0 X => ?_) (fun h0 z => ?_)
  · refine Ret_pad ?_
    simp only [n70, r70, SB, Nat.reduceLT, callee, aOp, ne_eq, Nat.reduceEqDiff, aBin, aUn, if_true, if_false, reduceCtorEq, frame0, place, notTuple, Nat.reduceAdd, Nat.reduceLeDiff, resVal, dite_true, dite_false, Int.reduceEq, Int.reduceLT, Int.reduceLE]
    refine concat_tail (c1 := c1) (c2 := c2) (o := o) hB s1 s2 hn hlim (Chg.refl.app) (.inl .nil) (by simp only [FB, Nat.reduceEqDiff]) (by simp only [FB, Nat.reduceEqDiff]) (by simp only [FB, Nat.reduceEqDiff]) (by simp only [FB, Nat.reduceEqDiff]) fun fr' G' q' cap' hC hO g6 => ?_
    simp only [n70, r70, g6, SB, Nat.reduceLT, callee, aOp, ne_eq, Nat.reduceEqDiff, aBin, aUn, if_true, if_false, reduceCtorEq, frame0, place, notTuple, Nat.reduceAdd, Nat.reduceLeDiff, resVal, dite_true, dite_false, Int.reduceEq, Int.reduceLT, Int.reduceLE]
    exact hQ _ _ _ hC.app (hO.app _)
  · refine Ret_pad ?_
    simp only [n70, r70, SB, Nat.reduceLT, callee, aOp, ne_eq, Nat.reduceEqDiff, aBin, aUn, if_true, if_false, reduceCtorEq, frame0, place, notTuple, Nat.reduceAdd, Nat.reduceLeDiff, resVal, dite_true, dite_false, Int.reduceEq, Int.reduceLT, Int.reduceLE]
    refine concat_tail (c1 := c1) (c2 := c2) (o := o) hB s1 s2 hn hlim (Chg.refl.app) (.inr ⟨rfl, rfl, _, z, rfl, hget_new0, Nat.le_refl _⟩) (by simp only [FB, Nat.reduceEqDiff]) (by simp only [FB, Nat.reduceEqDiff]) (by simp only [FB, Nat.reduceEqDiff]) (by simp only [FB, Nat.reduceEqDiff]) fun fr' G' q' cap' hC hO g6 => ?_
    simp only [n70, r70, g6, SB, Nat.reduceLT, callee, aOp, ne_eq, Nat.reduceEqDiff, aBin, aUn, if_true, if_false, reduceCtorEq, frame0, place, notTuple, Nat.reduceAdd, Nat.reduceLeDiff, resVal, dite_true, dite_false, Int.reduceEq, Int.reduceLT, Int.reduceLE]
    exact hQ _ _ _ hC.app (hO.app _)

/-- Without: the error, or the network without the leg, in slices of its own. -/
theorem Without_ok [OB] {lim : Nat} {pp pl : Option Addr} {P : List Int} {L : List Leg} {cp cl : Nat} {t : Int} {H : Heap} {Q : Value → Heap → Prop} (hn : NetIn H pp pl P L) (hc : CapOk 8 cl L.length) (hP : P ≠ []) (hlim : lim ≤ H.length) (hv : validN P L = 0) (ht : ∃ l ∈ L, l.id = t)
    (hok : ∀ H' qp ql cql, Chg [] H H' → Own H.length H' encI 1 qp (loose 1) P → OwnZ H.length H' encL 8 ql cql (L.take (L.findIdx fun l => l.id = t) ++ L.drop (L.findIdx (fun l => l.id = t) + 1)) → Q (.tuple #[.agg (netV qp P.length (loose 1) ql (L.length - 1) cql).toArray, .int .i64 0]) H') :
    CallR E false lim 27 [.agg (netV pp P.length cp pl L.length cl).toArray, .int .i64 t] H Q := by
  refine runs' (by decide) e27 rfl ?_
  rw [b27, c27]
  obtain ⟨v1, v2, v3, v4⟩ := validN_0 hv
  have hvd := fun X (mp : Bool) (lim : Nat) (Q : Value → Heap → Prop) => valid_ok (mp := mp) (lim := lim) (cp := cp) (cl := cl) (Q := Q) (hn.app X)
  rw [hv] at hvd
  have hix := fun X (mp : Bool) (lim : Nat) (Q : Value → Heap → Prop) => legindex_ok (mp := mp) (lim := lim) (A := H.length + 1) (o := false) (t := t) (cap := cl) (Q := Q) (H := H ++ .cells false (netV pp P.length cp pl L.length cl) :: .cells false [.int .i64 t] :: X) (by rw [hget_new]; rfl) (hn.sl.app _) (by omega)
  have hat : legAt L t = ((L.findIdx fun l => l.id = t : Nat) : Int) := if_pos ht
  have hil : L.findIdx (fun l => l.id = t) < L.length := by
    rw [List.findIdx_lt_length]
    obtain ⟨l, h1, h2⟩ := ht
    exact ⟨l, h1, by simpa using h2⟩
  rw [hat] at hix
  generalize L.findIdx (fun l => decide (l.id = t)) = i at *
  have hineg : ¬ (i : Int) < 0 := by omega
  have w1 : IntKind.i64.wrap ((i : Int) + 1) = ((i + 1 : Nat) : Int) := wrap_nat (by omega)
  obtain ⟨q1, k1, x1, s1, _, _, _⟩ := slice_cut (vlo := none) (vhi := some (.int .i64 (i : Int))) (lo := 0) (hi := i) hn.sl hc encL_len (fun cap hcap => by rw [bv_010 (by omega) (by omega), Int.toNat_natCast]) (Nat.zero_le _) (by omega) (by omega)
  obtain ⟨q2, k2, x2, s2, _, _, _⟩ := slice_cut (vlo := some (.int .i64 ((i + 1 : Nat) : Int))) (vhi := none) (lo := i + 1) (hi := L.length) hn.sl hc encL_len (fun cap hcap => by rw [bv_100 (by omega) (by omega), Int.toNat_natCast]) (by omega) (Nat.le_refl _) (by omega)
  rw [List.drop_zero] at s1
  rw [List.take_length] at s2
  simp only [Nat.sub_zero] at x1
  simp only [n27, r27, hvd, netV_len, netV_0, netV_1, take_all, hix, hineg, w1, x1, x2, SB, Nat.reduceLT, callee, aOp, ne_eq, Nat.reduceEqDiff, aBin, aUn, if_true, if_false, reduceCtorEq, frame0, place, notTuple, Nat.reduceAdd, Nat.reduceLeDiff, resVal, dite_true, dite_false, Int.reduceEq, Int.reduceLT, Int.reduceLE]
  refine clone_ok (hn.sp.app _) hP (by omega) fun H3 q3 hE3 hO3 => ?_
  obtain ⟨Y, rfl⟩ := hE3
  refine Ret_pad ?_
  simp only [n27, r27, SB, Nat.reduceLT, callee, aOp, ne_eq, Nat.reduceEqDiff, aBin, aUn, if_true, if_false, reduceCtorEq, frame0, place, notTuple, Nat.reduceAdd, Nat.reduceLeDiff, resVal, dite_true, dite_false, Int.reduceEq, Int.reduceLT, Int.reduceLE]
  have e1 : (L.take i).length = i := by rw [List.length_take]; omega
  have e2 : (L.drop (i + 1)).length = L.length - (i + 1) := by rw [List.length_drop]
  generalize hd : (Blk.cells false [.slice q1 i k1, .slice q2 (L.length - (i + 1)) k2]) = d
  generalize hG : H ++ .cells false (netV pp P.length cp pl L.length cl) :: .cells false [.int .i64 t] :: .cells false [.slice none 0 0, .slice none 0 0] :: d :: (Y ++ []) = G
  have hEG : Ext H G := ⟨_, hG.symm⟩
  have hGl : H.length + 4 ≤ G.length := by rw [← hG]; simp
  have hG3 : hget G (H.length + 3) = d := by rw [← hG, hget_new]; rfl
  have hG2 : hget G (H.length + 2) = .cells false [.slice none 0 0, .slice none 0 0] := by rw [← hG, hget_new]; rfl
  have hm : Mut ((H ++ [Blk.cells false (netV pp P.length cp pl L.length cl), Blk.cells false [.int .i64 t], Blk.cells false [.slice none 0 0, .slice none 0 0], Blk.dead]) ++ Y) G (H.length + 3) := by
    have e : G = ((H ++ [Blk.cells false (netV pp P.length cp pl L.length cl), Blk.cells false [.int .i64 t], Blk.cells false [.slice none 0 0, .slice none 0 0], Blk.dead]) ++ Y).set (H.length + 3) d := by
      rw [← hG, List.append_assoc, set_new]; simp
    rw [e]; exact ⟨by simp, fun j hj => hget_set_ne hj⟩
  simp only [List.length_append, List.length_cons, List.length_nil] at hO3
  have hO := hO3.mut hm fun a e => by have := (hO3.block e).1; omega
  have hcc := fun Q => concat_ok (lim := lim) (Q := Q) (B := H.length + 3) (o := false) (p1 := q1) (c1 := k1) (m1 := L.take i) (p2 := q2) (c2 := k2) (m2 := L.drop (i + 1)) (H := G) (by rw [hG3, ← hd, e1, e2]) (hEG.sl s1) (hEG.sl s2) (by omega) (by omega)
  rw [e1, e2] at hcc
  refine hcc _ fun H5 q5 c5 hC5 hO5 => ?_
  have hl5 := hC5.len
  obtain ⟨H6, e6, h6, m6⟩ := mut_set (hget_alive (hC5.cells hG2 (by simp))) (.cells false [.slice q3 P.length (loose 1), .slice q5 (i + (L.length - (i + 1))) c5])
  have hG2X := fun X => (Ext.refl.app (X := X)).cells (hC5.cells hG2 (by simp))
  have h6X := fun X => (Ext.refl.app (X := X)).cells h6
  have ei : i + (L.length - (i + 1)) = L.length - 1 := by omega
  rw [ei] at e6 h6 h6X
  refine Ret_pad ?_
  simp only [n27, r27, hG2X, e6, h6X, ei, show lim ≤ H.length + 2 by omega, SB, Nat.reduceLT, callee, aOp, ne_eq, Nat.reduceEqDiff, aBin, aUn, if_true, if_false, reduceCtorEq, frame0, place, notTuple, Nat.reduceAdd, Nat.reduceLeDiff, resVal, dite_true, dite_false, Int.reduceEq, Int.reduceLT, Int.reduceLE]
  refine hok _ q3 q5 c5 ((((hEG.chg).trans hC5).mut m6 (.inr (by omega))).app) ?_ ?_
  · exact (((hO.chg hC5 (by simp)).mut m6 fun a e => by have := (hO.block e).1; omega).le (by omega)).app _
  · have hc6 : Chg [H.length + 2] H5 H6 := Chg.refl.mut m6 (.inl (by simp))
    exact ((hO5.chg hc6 fun a e => by have := (hO5.block e).1; simp only [List.mem_singleton]; omega).le (by omega)).app _
end Go.Proofs.Ytcmhnincbkbncaa.Fn
namespace Go.Proofs.Ytcmhnincbkbncaa.Fn
open Go.AM Go.AM.Sym Go.Net
set_option maxRecDepth 100000
set_option linter.unusedVariables false
set_option linter.unusedSimpArgs false
set_option maxHeartbeats 4000000

theorem samelegs_eqv {a b : Leg} : aEq (.agg [.int .i64, .int .i64, .int .i64, .int .i64, .int .i64, .int .i64, .int .i64, .int .u8]) (.agg (encL a).toArray) (.agg (encL b).toArray) = some (decide (a = b)) := by
  simp only [aEq, encL, cellsEq, cellEq, and_self, if_true]
  congr 1
  rw [Bool.eq_iff_iff]
  cases a; cases b
  simp [and_assoc]
def encS (s : Int × Int × Int) : List Value := enc3 s
theorem stop_eqv {a b : Int × Int × Int} : aEq (.agg [.int .i64, .int .i64, .int .i64]) (.agg (enc3 a).toArray) (.agg (enc3 b).toArray) = some (decide (a = b)) := by
  simp only [aEq, enc3, cellsEq, cellEq, and_self, if_true]
  congr 1
  rw [Bool.eq_iff_iff]
  obtain ⟨a1, a2, a3⟩ := a
  obtain ⟨b1, b2, b3⟩ := b
  simp [and_assoc]

theorem samestops_ok [OB] {mp : Bool} {lim ca cb : Nat} {p q : Option Addr} {a b : List (Int × Int × Int)} {H : Heap} {Q : Value → Heap → Prop} (ha : Sl H enc3 3 p a) (hb : Sl H enc3 3 q b) (hn : a.length < 2 ^ 62) :
    CallR E mp lim 31 [.slice p a.length ca, .slice q b.length cb] H Q = Q (.bool (decide (a = b))) H := by
  refine pc (by decide) e31 rfl rfl ?_
  rw [b31, c31]
  by_cases hl : a.length = b.length
  case neg =>
    have h1 : ¬ (a.length : Int) = (b.length : Int) := by omega
    simp only [n31, r31, eq_false h1, SB, Nat.reduceLT, callee, aOp, ne_eq, Nat.reduceEqDiff, aBin, aUn, if_true, if_false, reduceCtorEq, frame0, place, notTuple, Nat.reduceAdd, Nat.reduceLeDiff, resVal, dite_true, dite_false, Int.reduceEq, Int.reduceLT, Int.reduceLE]
    congr 1
    rw [eq_comm, decide_eq_false_iff_not]
    rintro rfl
    exact hl rfl
  have h1 : (a.length : Int) = (b.length : Int) := by omega
  simp only [n31, r31, eq_true h1, SB, Nat.reduceLT, callee, aOp, ne_eq, Nat.reduceEqDiff, aBin, aUn, if_true, if_false, reduceCtorEq, frame0, place, notTuple, Nat.reduceAdd, Nat.reduceLeDiff, resVal, dite_true, dite_false, Int.reduceEq, Int.reduceLT, Int.reduceLE]
  refine Ret_rounds (fun j => a.length - j) (fun j fr G => j ≤ a.length ∧ fr 0 = .slice p a.length ca ∧ fr 1 = .slice q b.length cb ∧ fr 5 = .int .i64 (j : Int) ∧ Ext H G ∧ ∀ i, i < j → gt a i = gt b i) 0 ⟨Nat.zero_le _, (by simp only [FB, Nat.reduceEqDiff]), (by simp only [FB, Nat.reduceEqDiff]), by rfl, Ext.refl.app, fun i hi => by omega⟩ ?_
  intro j fr G ⟨hj, f0, f1, f5, hE, hall⟩ hN
  rw [Ret_code l31_1.eq_1]
  refine Ret_pad ?_
  by_cases hlt : j < a.length
  case neg =>
    obtain rfl : j = a.length := by omega
    simp only [n31, r31, f0, f1, f5, hlt, SB, Nat.reduceLT, callee, aOp, ne_eq, Nat.reduceEqDiff, aBin, aUn, if_true, if_false, reduceCtorEq, frame0, place, notTuple, Nat.reduceAdd, Nat.reduceLeDiff, resVal, dite_true, dite_false, Int.reduceEq, Int.reduceLT, Int.reduceLE]
    rw [decide_eq_true (same_all hl hall)]
  have l1 := fun X => ((hE.sl ha).app X).loadCells enc3_len hlt
  have l2 := fun X => ((hE.sl hb).app X).loadCells enc3_len (by omega : j < b.length)
  have x1 := fun c (kk : IntKind) (H1 : Heap) => (hE.sl ha).idx (c := c) (k := kk) (H1 := H1) hlt
  have x2 := fun c (kk : IntKind) (H1 : Heap) => (hE.sl hb).idx (c := c) (k := kk) (H1 := H1) (by omega : j < b.length)
  have hw1 : IntKind.i64.wrap ((j : Int) + 1) = ((j + 1 : Nat) : Int) := wrap_nat (by omega)
  have hq := stop_eqv (a := gt a j) (b := gt b j)
  by_cases he : gt a j = gt b j
  · rw [decide_eq_true he] at hq
    simp only [n31, r31, f0, f1, f5, hlt, l1, l2, x1, x2, hw1, hq, SB, Nat.reduceLT, callee, aOp, ne_eq, Nat.reduceEqDiff, aBin, aUn, if_true, if_false, reduceCtorEq, frame0, place, notTuple, Nat.reduceAdd, Nat.reduceLeDiff, resVal, dite_true, dite_false, Int.reduceEq, Int.reduceLT, Int.reduceLE]
    exact hN (j + 1) _ _ ⟨by omega, (by simp only [f0, FB, Nat.reduceEqDiff]), (by simp only [f1, FB, Nat.reduceEqDiff]), (by simp only [FB, Nat.reduceEqDiff]), hE.app, same_step hl hlt hall he⟩ (by omega)
  · rw [decide_eq_false he] at hq
    simp only [n31, r31, f0, f1, f5, hlt, l1, l2, x1, x2, hw1, hq, SB, Nat.reduceLT, callee, aOp, ne_eq, Nat.reduceEqDiff, aBin, aUn, if_true, if_false, reduceCtorEq, frame0, place, notTuple, Nat.reduceAdd, Nat.reduceLeDiff, resVal, dite_true, dite_false, Int.reduceEq, Int.reduceLT, Int.reduceLE]
    rw [decide_eq_false]
    rintro rfl
    exact he rfl
theorem samelegs_ok [OB] {mp : Bool} {lim ca cb : Nat} {p q : Option Addr} {a b : List Leg} {H : Heap} {Q : Value → Heap → Prop} (ha : Sl H encL 8 p a) (hb : Sl H encL 8 q b) (hn : a.length < 2 ^ 62) :
    CallR E mp lim 29 [.slice p a.length ca, .slice q b.length cb] H Q = Q (.bool (decide (a = b))) H := by
  refine pc (by decide) e29 rfl rfl ?_
  rw [b29, c29]
  by_cases hl : a.length = b.length
  case neg =>
    have h1 : ¬ (a.length : Int) = (b.length : Int) := by omega
    simp only [n29, r29, eq_false h1, SB, Nat.reduceLT, callee, aOp, ne_eq, Nat.reduceEqDiff, aBin, aUn, if_true, if_false, reduceCtorEq, frame0, place, notTuple, Nat.reduceAdd, Nat.reduceLeDiff, resVal, dite_true, dite_false, Int.reduceEq, Int.reduceLT, Int.reduceLE]
    congr 1
    rw [eq_comm, decide_eq_false_iff_not]
    rintro rfl
    exact hl rfl
  have h1 : (a.length : Int) = (b.length : Int) := by omega
  simp only [n29, r29, eq_true h1, SB, Nat.reduceLT, callee, aOp, ne_eq, Nat.reduceEqDiff, aBin, aUn, if_true, if_false, reduceCtorEq, frame0, place, notTuple, Nat.reduceAdd, Nat.reduceLeDiff, resVal, dite_true, dite_false, Int.reduceEq, Int.reduceLT, Int.reduceLE]
  refine Ret_rounds (fun j => a.length - j) (fun j fr G => j ≤ a.length ∧ fr 0 = .slice p a.length ca ∧ fr 1 = .slice q b.length cb ∧ fr 5 = .int .i64 (j : Int) ∧ Ext H G ∧ ∀ i, i < j → gt a i = gt b i) 0 ⟨Nat.zero_le _, (by simp only [FB, Nat.reduceEqDiff]), (by simp only [FB, Nat.reduceEqDiff]), by rfl, Ext.refl.app, fun i hi => by omega⟩ ?_
  intro j fr G ⟨hj, f0, f1, f5, hE, hall⟩ hN
  rw [Ret_code l29_1.eq_1]
  refine Ret_pad ?_
  by_cases hlt : j < a.length
  case neg =>
    obtain rfl : j = a.length := by omega
    simp only [n29, r29, f0, f1, f5, hlt, SB, Nat.reduceLT, callee, aOp, ne_eq, Nat.reduceEqDiff, aBin, aUn, if_true, if_false, reduceCtorEq, frame0, place, notTuple, Nat.reduceAdd, Nat.reduceLeDiff, resVal, dite_true, dite_false, Int.reduceEq, Int.reduceLT, Int.reduceLE]
    rw [decide_eq_true (same_all hl hall)]
  have l1 := fun X => ((hE.sl ha).app X).loadCells encL_len hlt
  have l2 := fun X => ((hE.sl hb).app X).loadCells encL_len (by omega : j < b.length)
  have x1 := fun c (kk : IntKind) (H1 : Heap) => (hE.sl ha).idx (c := c) (k := kk) (H1 := H1) hlt
  have x2 := fun c (kk : IntKind) (H1 : Heap) => (hE.sl hb).idx (c := c) (k := kk) (H1 := H1) (by omega : j < b.length)
  have hw1 : IntKind.i64.wrap ((j : Int) + 1) = ((j + 1 : Nat) : Int) := wrap_nat (by omega)
  have hq := samelegs_eqv (a := gt a j) (b := gt b j)
  by_cases he : gt a j = gt b j
  · rw [decide_eq_true he] at hq
    simp only [n29, r29, f0, f1, f5, hlt, l1, l2, x1, x2, hw1, hq, SB, Nat.reduceLT, callee, aOp, ne_eq, Nat.reduceEqDiff, aBin, aUn, if_true, if_false, reduceCtorEq, frame0, place, notTuple, Nat.reduceAdd, Nat.reduceLeDiff, resVal, dite_true, dite_false, Int.reduceEq, Int.reduceLT, Int.reduceLE]
    exact hN (j + 1) _ _ ⟨by omega, (by simp only [f0, FB, Nat.reduceEqDiff]), (by simp only [f1, FB, Nat.reduceEqDiff]), (by simp only [FB, Nat.reduceEqDiff]), hE.app, same_step hl hlt hall he⟩ (by omega)
  · rw [decide_eq_false he] at hq
    simp only [n29, r29, f0, f1, f5, hlt, l1, l2, x1, x2, hw1, hq, SB, Nat.reduceLT, callee, aOp, ne_eq, Nat.reduceEqDiff, aBin, aUn, if_true, if_false, reduceCtorEq, frame0, place, notTuple, Nat.reduceAdd, Nat.reduceLeDiff, resVal, dite_true, dite_false, Int.reduceEq, Int.reduceLT, Int.reduceLE]
    rw [decide_eq_false]
    rintro rfl
    exact he rfl

theorem daily_ok [OB] {mp : Bool} {lim : Nat} {a b c d e f : Int} {H : Heap} {Q : Value → Heap → Prop} : CallR E mp lim 17 [.int .i64 a, .int .i64 b, .int .i64 c, .int .i64 d, .int .i64 e, .int .i64 f] H Q = Q (.agg (encL ⟨a, b, c, d, e, f, 0, 127⟩).toArray) H := by
  refine pc (by decide) e17 rfl rfl ?_
  rw [b17, c17]
  simp only [n17, r17, encL, SB, Nat.reduceLT, callee, aOp, ne_eq, Nat.reduceEqDiff, aBin, aUn, if_true, if_false, reduceCtorEq, frame0, place, notTuple, Nat.reduceAdd, Nat.reduceLeDiff, resVal, dite_true, dite_false, Int.reduceEq, Int.reduceLT, Int.reduceLE]
theorem three_ok [OB] {lim : Nat} {H : Heap} {Q : Value → Heap → Prop} (hlim : lim ≤ H.length) (hQ : ∀ H' a b, Ext H H' → NetIn H' a b P3 L3 → Q (.agg (netV a 3 3 b 3 3).toArray) H') : CallR E false lim 60 [] H Q := by
  refine runs' (by decide) e60 rfl ?_
  rw [b60, c60]
  simp only [n60, r60, daily_ok, encL, setAll_full, hlim, SB, Nat.reduceLT, callee, aOp, ne_eq, Nat.reduceEqDiff, aBin, aUn, if_true, if_false, reduceCtorEq, frame0, place, notTuple, Nat.reduceAdd, Nat.reduceLeDiff, resVal, dite_true, dite_false, Int.reduceEq, Int.reduceLT, Int.reduceLE]
  refine hQ _ (some ⟨H.length + 1, 0, none⟩) (some ⟨H.length + 2, 0, none⟩) Ext.refl.app ⟨Sl.row (ro := false) encI_len (by rw [hget_new]; rfl), Sl.row (ro := false) encL_len (by rw [hget_new]; rfl), by decide, by decide, ?_⟩
  intro l hl
  simp only [L3, List.mem_cons, List.not_mem_nil, or_false] at hl
  rcases hl with rfl | rfl | rfl <;> (unfold By; decide)
theorem aw7 : IsArr L3 1 0 3 780 := by
  have hk : arrK 3 (posN P3) (0 + 86400) L3 1 0 2 = [0, 660, 780] := by rw [arrK, arrK, arrK]; exact (congrArg _ s_a).trans s_b
  have h1 := arrK_all (net3 val3) (p := 1) (by decide) (Int.le_refl 0) (by decide : (0 : Int) ≤ 0 + 86400) (k := 2) (by rw [arrK, hk]; exact s_c) 3 (by decide)
  rw [hk] at h1
  exact h1
theorem er3 {p q t : Int} (hp : p ∈ P3) (hq : q ∈ P3) (h0 : 0 ≤ t) (h1 : t ≤ maxTime) : errA P3 L3 p q t = 0 := by
  unfold errA; rw [if_neg (by rw [val3]; decide), if_pos ⟨hp, hq, h0, h1⟩]
theorem erM {p q t : Int} (hp : p ∈ P3) (hq : q ∈ P3) (h0 : 0 ≤ t) (h1 : t ≤ maxTime) : errA P3 M3 p q t = 0 := by
  unfold errA; rw [if_neg (by rw [valM]; decide), if_pos ⟨hp, hq, h0, h1⟩]
theorem awake33_go [OB] {mp : Bool} {lim : Nat} {H : Heap} {Q : Value → Heap → Prop} (hoff : OB.on 21 = false) : CallR E mp lim 21 [] H Q = Q (.bool true) H := by
  refine CallR_pure (E := E) (by simp [E, orc, hoff]) (show E.tr 21 = some a21 from e21) rfl rfl (Ret_pad ?_)
  rw [b21, c21]
  simp only [n21, r21, SB, Nat.reduceLT, callee, aOp, ne_eq, Nat.reduceEqDiff, aBin, aUn, if_true, if_false, reduceCtorEq, frame0, place, notTuple, Nat.reduceAdd, Nat.reduceLeDiff, resVal, dite_true, dite_false, Int.reduceEq, Int.reduceLT, Int.reduceLE]
  rw [List.append_nil]
  refine three_ok (Nat.le_refl _) fun H0 pa pb hE0 hn0 => ?_
  refine Ret_pad ?_
  have hl0 := hE0.len
  simp only [n21, r21, netV_len, netV_0, netV_1, take_all, setAll_full, hl0, SB, Nat.reduceLT, callee, aOp, ne_eq, Nat.reduceEqDiff, aBin, aUn, if_true, if_false, reduceCtorEq, frame0, place, notTuple, Nat.reduceAdd, Nat.reduceLeDiff, resVal, dite_true, dite_false, Int.reduceEq, Int.reduceLT, Int.reduceLE]
  -- Arrive
  refine Arrive_ok (P := P3) (L := L3) (cp := 3) (cl := 3) (hn0.app _) (by simp; omega) (fun _ h => absurd (er3 (by decide) (by decide) (by decide) (by decide)) h) fun H1 q1 T1 _ hC1 hT1 hO1 hl1 => ?_
  have hN1 := hC1.cells (j := H0.length) hget_new0 (by simp)
  have hN1X := fun X => (Ext.refl.app (X := X)).cells hN1
  have hE1 : Ext H0 H1 := hC1.pre.ext
  have hlen1 := hE1.len
  have S1 := hO1.sl encI_len
  obtain rfl := aw1 hT1
  refine Ret_pad ?_
  simp only [n21, r21, hN1X, netV_len, netV_0, netV_1, take_all, SB, Nat.reduceLT, callee, aOp, ne_eq, Nat.reduceEqDiff, aBin, aUn, if_true, if_false, reduceCtorEq, frame0, place, notTuple, Nat.reduceAdd, Nat.reduceLeDiff, resVal, dite_true, dite_false, Int.reduceEq, Int.reduceLT, Int.reduceLE]
  rw [List.append_nil]
  -- Way
  refine Way_ok (P := P3) (L := L3) (cp := 3) (cl := 3) (hn0.ext hE1) (by omega) (fun _ h => absurd (er3 (by decide) (by decide) (by decide) (by decide)) h) (fun _ _ h => by have := h.uniq aw7; omega) fun H2 v w p2 c2 _ hC2 hv0 hv hw _ hO2 => ?_
  obtain ⟨rfl, rfl⟩ := aw6 hv hw
  have hN2 := hC2.cells hN1 (by simp)
  have hN2X := fun X => (Ext.refl.app (X := X)).cells hN2
  have hE2 : Ext H0 H2 := hE1.trans hC2.ext
  have hlen2 := hC2.len
  have S2 := hO2.sl enc3_len
  replace S1 := hC2.ext.sl S1
  refine Ret_pad ?_
  simp only [n21, r21, hN2X, netV_len, netV_0, netV_1, take_all, SB, Nat.reduceLT, callee, aOp, ne_eq, Nat.reduceEqDiff, aBin, aUn, if_true, if_false, reduceCtorEq, frame0, place, notTuple, Nat.reduceAdd, Nat.reduceLeDiff, resVal, dite_true, dite_false, Int.reduceEq, Int.reduceLT, Int.reduceLE]
  rw [List.append_nil]
  refine Arrive_ok (P := P3) (L := L3) (cp := 3) (cl := 3) (hn0.ext hE2) (by omega) (fun _ h => absurd (er3 (by decide) (by decide) (by decide) (by decide)) h) fun H3 q3 T3 _ hC3 hT3 hO3 hl3 => ?_
  have hN3 := hC3.cells hN2 (by simp)
  have hN3X := fun X => (Ext.refl.app (X := X)).cells hN3
  have hE3 : Ext H0 H3 := hE2.trans hC3.ext
  have hlen3 := hC3.len
  have S3 := hO3.sl encI_len
  replace S1 := hC3.ext.sl S1
  replace S2 := hC3.ext.sl S2
  obtain rfl := aw2 hT3
  refine Ret_pad ?_
  simp only [n21, r21, hN3X, netV_len, netV_0, netV_1, take_all, SB, Nat.reduceLT, callee, aOp, ne_eq, Nat.reduceEqDiff, aBin, aUn, if_true, if_false, reduceCtorEq, frame0, place, notTuple, Nat.reduceAdd, Nat.reduceLeDiff, resVal, dite_true, dite_false, Int.reduceEq, Int.reduceLT, Int.reduceLE]
  rw [List.append_nil]
  refine Leave_ok (P := P3) (L := L3) (cp := 3) (cl := 3) (hn0.ext hE3) (by omega) (fun _ h => absurd (er3 (by decide) (by decide) (by decide) (by decide)) h) fun H4 q4 T4 _ hC4 hT4 hO4 hl4 => ?_
  have hN4 := hC4.cells hN3 (by simp)
  have hN4X := fun X => (Ext.refl.app (X := X)).cells hN4
  have hE4 : Ext H0 H4 := hE3.trans hC4.ext
  have hlen4 := hC4.len
  have S4 := hO4.sl encI_len
  replace S1 := hC4.ext.sl S1
  replace S2 := hC4.ext.sl S2
  replace S3 := hC4.ext.sl S3
  obtain rfl := aw5 hT4
  refine Ret_pad ?_
  simp only [n21, r21, hN4X, netV_len, netV_0, netV_1, take_all, SB, Nat.reduceLT, callee, aOp, ne_eq, Nat.reduceEqDiff, aBin, aUn, if_true, if_false, reduceCtorEq, frame0, place, notTuple, Nat.reduceAdd, Nat.reduceLeDiff, resVal, dite_true, dite_false, Int.reduceEq, Int.reduceLT, Int.reduceLE]
  rw [List.append_nil]
  refine Without_ok (P := P3) (L := L3) (cp := 3) (cl := 3) (hn0.ext hE4) (.inr ⟨by decide, by decide⟩) (by decide) (by omega) val3 ⟨g2, by simp [L3], rfl⟩ fun H5 qp ql cql hC5 hOp hOl => ?_
  have hid : (L3.findIdx fun l => l.id = 2) = 1 := rfl
  rw [hid] at hOl
  replace hOl : OwnZ H4.length H5 encL 8 ql cql M3 := hOl
  have hN5 := hC5.cells hN4 (by simp)
  have hN5X := fun X => (Ext.refl.app (X := X)).cells hN5
  have hE5 : Ext H0 H5 := hE4.trans hC5.ext
  have hlen5 := hC5.len
  replace S1 := hC5.ext.sl S1
  replace S2 := hC5.ext.sl S2
  replace S3 := hC5.ext.sl S3
  replace S4 := hC5.ext.sl S4
  have hnM : NetIn H5 qp ql P3 M3 := ⟨hOp.sl encI_len, hOl.sl encL_len, by decide, by decide, fun l hl => hn0.bys l (by
    simp only [M3, List.mem_cons, List.not_mem_nil, or_false] at hl
    rcases hl with rfl | rfl <;> simp [L3])⟩
  refine Ret_pad ?_
  simp only [n21, r21, netV_len, netV_0, netV_1, take_all, setAll_full, show H.length ≤ H5.length by omega, SB, Nat.reduceLT, callee, aOp, ne_eq, Nat.reduceEqDiff, aBin, aUn, if_true, if_false, reduceCtorEq, frame0, place, notTuple, Nat.reduceAdd, Nat.reduceLeDiff, resVal, dite_true, dite_false, Int.reduceEq, Int.reduceLT, Int.reduceLE]
  refine Arrive_ok (P := P3) (L := M3) (cp := loose 1) (cl := cql) (hnM.app _) (by simp; omega) (fun _ h => absurd (erM (by decide) (by decide) (by decide) (by decide)) h) fun H6 q6 T6 _ hC6 hT6 hO6 hl6 => ?_
  have hC6' := hC6.pre
  have hN6 := hC6'.cells hN5 (by simp)
  have hN6X := fun X => (Ext.refl.app (X := X)).cells hN6
  have hE6 : Ext H0 H6 := hE5.trans hC6'.ext
  have hlen6 := hC6'.len
  have S6 := hO6.sl encI_len
  replace S1 := hC6'.ext.sl S1
  replace S2 := hC6'.ext.sl S2
  replace S3 := hC6'.ext.sl S3
  replace S4 := hC6'.ext.sl S4
  obtain rfl := aw3 hT6
  refine Ret_pad ?_
  simp only [n21, r21, hN6X, netV_len, netV_0, netV_1, take_all, SB, Nat.reduceLT, callee, aOp, ne_eq, Nat.reduceEqDiff, aBin, aUn, if_true, if_false, reduceCtorEq, frame0, place, notTuple, Nat.reduceAdd, Nat.reduceLeDiff, resVal, dite_true, dite_false, Int.reduceEq, Int.reduceLT, Int.reduceLE]
  rw [List.append_nil]
  refine Way_ok (P := P3) (L := L3) (cp := 3) (cl := 3) (hn0.ext hE6) (by omega) (fun _ h => absurd (er3 (by decide) (by decide) (by decide) (by decide)) h) (fun H7 _ _ hC7 => ?_) fun H7 v w p7 c7 _ hC7 hv0 hv hw _ hO7 => ?_
  · replace S1 := hC7.ext.sl S1
    replace S2 := hC7.ext.sl S2
    replace S3 := hC7.ext.sl S3
    replace S4 := hC7.ext.sl S4
    replace S6 := hC7.ext.sl S6
    have f1 : ∀ (X : Heap) (mp : Bool) (lim : Nat) (Q : Value → Heap → Prop), CallR E mp lim 28 [.slice q1 P3.length (loose 1), .slice (some ⟨H7.length, 0, none⟩) 3 3] (H7 ++ .cells false [.int .i64 0, .int .i64 660, .int .i64 780] :: X) Q = Q (.bool true) (H7 ++ .cells false [.int .i64 0, .int .i64 660, .int .i64 780] :: X) := fun X mp lim Q =>
      sameints_ok (a := [0, 660, 780]) (b := [0, 660, 780]) (S1.app _) (Sl.row (ro := false) encI_len (by rw [hget_new0]; rfl)) (by decide)
    have f2 : ∀ (a : Blk) (X : Heap) (mp : Bool) (lim : Nat) (Q : Value → Heap → Prop), CallR E mp lim 31 [.slice p2 2 c2, .slice (some ⟨H7.length + 1, 0, none⟩) 2 2] (H7 ++ a :: .cells false [.int .i64 1, .int .i64 600, .int .i64 660, .int .i64 2, .int .i64 720, .int .i64 780] :: X) Q = Q (.bool true) (H7 ++ a :: .cells false [.int .i64 1, .int .i64 600, .int .i64 660, .int .i64 2, .int .i64 720, .int .i64 780] :: X) := fun a X mp lim Q =>
      samestops_ok (a := [(g1, (600 : Int)), (g2, 720)].map stopOf) (b := [(1, 600, 660), (2, 720, 780)]) (S2.app _) (Sl.row (ro := false) enc3_len (by rw [hget_new]; rfl)) (by decide)
    have f3 : ∀ (a b : Blk) (X : Heap) (mp : Bool) (lim : Nat) (Q : Value → Heap → Prop), CallR E mp lim 28 [.slice q3 P3.length (loose 1), .slice (some ⟨H7.length + 2, 0, none⟩) 3 3] (H7 ++ a :: b :: .cells false [.int .i64 601, .int .i64 2100, .int .i64 2220] :: X) Q = Q (.bool true) (H7 ++ a :: b :: .cells false [.int .i64 601, .int .i64 2100, .int .i64 2220] :: X) := fun a b X mp lim Q =>
      sameints_ok (a := [601, 2100, 2220]) (b := [601, 2100, 2220]) (S3.app _) (Sl.row (ro := false) encI_len (by rw [hget_new]; rfl)) (by decide)
    have f4 : ∀ (a b c : Blk) (X : Heap) (mp : Bool) (lim : Nat) (Q : Value → Heap → Prop), CallR E mp lim 28 [.slice q4 P3.length (loose 1), .slice (some ⟨H7.length + 3, 0, none⟩) 3 3] (H7 ++ a :: b :: c :: .cells false [.int .i64 600, .int .i64 660, .int .i64 780] :: X) Q = Q (.bool true) (H7 ++ a :: b :: c :: .cells false [.int .i64 600, .int .i64 660, .int .i64 780] :: X) := fun a b c X mp lim Q =>
      sameints_ok (a := [600, 660, 780]) (b := [600, 660, 780]) (S4.app _) (Sl.row (ro := false) encI_len (by rw [hget_new]; rfl)) (by decide)
    have f5 : ∀ (a b c d : Blk) (X : Heap) (mp : Bool) (lim : Nat) (Q : Value → Heap → Prop), CallR E mp lim 28 [.slice q6 P3.length (loose 1), .slice (some ⟨H7.length + 4, 0, none⟩) 3 3] (H7 ++ a :: b :: c :: d :: .cells false [.int .i64 0, .int .i64 660, .int .i64 840] :: X) Q = Q (.bool true) (H7 ++ a :: b :: c :: d :: .cells false [.int .i64 0, .int .i64 660, .int .i64 840] :: X) := fun a b c d X mp lim Q =>
      sameints_ok (a := [0, 660, 840]) (b := [0, 660, 840]) (S6.app _) (Sl.row (ro := false) encI_len (by rw [hget_new]; rfl)) (by decide)
    refine Ret_pad ?_
    simp only [n21, r21, f1, f2, f3, f4, f5, SB, Nat.reduceLT, callee, aOp, ne_eq, Nat.reduceEqDiff, aBin, aUn, if_true, if_false, reduceCtorEq, frame0, place, notTuple, Nat.reduceAdd, Nat.reduceLeDiff, resVal, dite_true, dite_false, Int.reduceEq, Int.reduceLT, Int.reduceLE]
  · have := aw4 hv; omega
end Go.Proofs.Ytcmhnincbkbncaa.Fn
namespace Go.Proofs.Ytcmhnincbkbncaa.Fn
open Go.AM Go.AM.Sym Go.Net
set_option maxRecDepth 100000
set_option linter.unusedVariables false
set_option linter.unusedSimpArgs false
set_option maxHeartbeats 4000000

def onDay (l : Leg) (d : Int) : Option (Int × Int) := if 0 ≤ d ∧ d < 730485 then depOn l d.toNat else none
/-- One stop of a way. -/
def okStop (L : List Leg) (p t : Int) (s : Int × Int × Int) : Option (Int × Int) :=
  match L.find? (fun l => l.id = s.1) with
  | none => none
  | some l => if l.frm = p ∧ onDay l (Int.tdiv s.2.1 1440) = some (s.2.1, s.2.2) ∧ t ≤ s.2.1 - l.cut then some (l.dst, s.2.2) else none
def rightN (L : List Leg) : Int → Int → List (Int × Int × Int) → Int → Bool
  | p, _, [], q => decide (p = q)
  | p, t, s :: r, q => match okStop L p t s with
    | none => false
    | some (p', t') => rightN L p' t' r q

theorem onDay_some {l : Leg} {a b : Int} (hl : Fine l) : onDay l (Int.tdiv a 1440) = some (a, b) ↔ Dep l a ∧ b = a + l.mins := by
  unfold Fine at hl
  constructor
  · intro h
    unfold onDay at h
    split at h
    case isFalse => cases h
    rename_i hd
    obtain ⟨d, hd'⟩ : ∃ d : Nat, Int.tdiv a 1440 = (d : Int) := ⟨(Int.tdiv a 1440).toNat, by omega⟩
    rw [hd', Int.toNat_natCast] at h
    unfold depOn at h
    split at h
    case isFalse => cases h
    rename_i hg
    simp only [Option.some.injEq, Prod.mk.injEq] at h
    exact ⟨⟨d, by rw [dayN_eq]; omega, hg, h.1.symm⟩, by omega⟩
  · rintro ⟨⟨d, hd, hg, rfl⟩, rfl⟩
    rw [dayN_eq] at hd
    have e : Int.tdiv (1440 * (d : Int) + l.dep) 1440 = (d : Int) := by
      rw [Int.tdiv_eq_ediv_of_nonneg (by omega)]; omega
    unfold onDay
    rw [e, if_pos (by omega), Int.toNat_natCast, depOn, hg]
    rfl
theorem find_id {L : List Leg} {a : Int} {l : Leg} (h : L.find? (fun l => l.id = a) = some l) : l ∈ L ∧ l.id = a := ⟨List.mem_of_find?_eq_some h, by simpa using List.find?_some h⟩
theorem find_mem {L : List Leg} (hid : L.Pairwise (fun a b => a.id ≠ b.id)) {l : Leg} (hl : l ∈ L) : L.find? (fun x => x.id = l.id) = some l := by
  induction L with
  | nil => simp at hl
  | cons x L ih =>
    rw [List.find?_cons]
    rw [List.pairwise_cons] at hid
    rcases List.mem_cons.1 hl with rfl | h
    · simp
    · have := hid.1 l h
      simp only [this, decide_false]
      exact ih hid.2 h
theorem rightN_way {L : List Leg} (hf : ∀ l ∈ L, Fine l) (hid : L.Pairwise (fun a b => a.id ≠ b.id)) : ∀ {s : List (Int × Int × Int)} {p t q : Int}, rightN L p t s q = true ↔ ∃ w u, s = w.map stopOf ∧ IsWay L p t w q u
  | [], p, t, q => by
    simp only [rightN, decide_eq_true_eq]
    constructor
    · rintro rfl; exact ⟨[], t, rfl, rfl, rfl⟩
    · rintro ⟨w, u, hw, h⟩
      cases w with
      | nil => exact h.1
      | cons x w => cases hw
  | (i, a, b) :: s, p, t, q => by
    simp only [rightN]
    constructor
    · intro h
      split at h
      · cases h
      rename_i p' t' hk
      unfold okStop at hk
      split at hk
      · cases hk
      rename_i l hfd
      split at hk
      case isFalse => cases hk
      rename_i hc
      obtain ⟨hl, hi⟩ := find_id hfd
      obtain ⟨h1, h2, h3⟩ := hc
      rw [onDay_some (hf l hl)] at h2
      cases hk
      obtain ⟨w, u, rfl, hw⟩ := (rightN_way hf hid).1 h
      simp only at hi h2 h3
      refine ⟨(l, a) :: w, u, ?_, hl, h1, h2.1, h3, by rw [← h2.2]; exact hw⟩
      rw [List.map_cons, stopOf, hi, h2.2]
    · rintro ⟨w, u, hw, h⟩
      cases w with
      | nil => cases hw
      | cons x w =>
        obtain ⟨l, a'⟩ := x
        simp only [List.map_cons, stopOf, List.cons.injEq, Prod.mk.injEq] at hw
        obtain ⟨⟨rfl, rfl, rfl⟩, rfl⟩ := hw
        obtain ⟨h1, h2, h3, h4, h5⟩ := h
        have e : okStop L p t (l.id, a, a + l.mins) = some (l.dst, a + l.mins) := by
          unfold okStop
          rw [find_mem hid h1]
          simp only
          rw [if_pos ⟨h2, (onDay_some (hf l h1)).2 ⟨h3, rfl⟩, h4⟩]
        rw [e]
        exact (rightN_way hf hid).2 ⟨w, u, rfl, h5⟩

def legMap (L : List Leg) : List (Value × Value) := L.map fun l => (.int .i64 l.id, .agg (encL l).toArray)
theorem leg_yes {L : List Leg} (hid : L.Pairwise (fun a b => a.id ≠ b.id)) {a : Int} {l : Leg} {i : Nat} (h : L.find? (fun l => l.id = a) = some l) : ∃ j, findKey (.int .i64 a) (legMap L) i = some (some (j, .agg (encL l).toArray)) := by
  obtain ⟨hl, he⟩ := find_id h
  unfold legMap
  refine findKey_yes (f := fun l : Leg => l.id) (g := fun l => .agg (encL l).toArray) ⟨l, hl, he⟩ fun x hx e => ?_
  have h1 := find_mem hid hl
  have h2 := find_mem hid hx
  rw [e, ← he, h1] at h2
  cases h2; rfl
theorem leg_no {L : List Leg} {a : Int} {i : Nat} (h : L.find? (fun l => l.id = a) = none) : findKey (.int .i64 a) (legMap L) i = some none := by
  unfold legMap
  refine findKey_no (f := fun l : Leg => l.id) (g := fun l => .agg (encL l).toArray) fun x hx e => ?_
  have := List.find?_eq_none.1 h x hx
  simp at this
  exact this e

theorem tdiv_range {a : Int} (h0 : -2 ^ 63 ≤ a) (h1 : a < 2 ^ 63) : -2 ^ 63 ≤ Int.tdiv a 1440 ∧ Int.tdiv a 1440 < 2 ^ 63 := by
  rcases Int.le_total 0 a with h | h
  · rw [Int.tdiv_eq_ediv_of_nonneg h]; omega
  · obtain ⟨b, rfl⟩ : ∃ b, a = -b := ⟨-a, by omega⟩
    rw [Int.neg_tdiv, Int.tdiv_eq_ediv_of_nonneg (by omega)]; omega
theorem Right_ok [OB] {mp : Bool} {lim : Nat} {pp pl ps : Option Addr} {P : List Int} {L : List Leg} {cp cl cs : Nat} {p q t : Int} {s : List (Int × Int × Int)} {H : Heap} {Q : Value → Heap → Prop} (hn : NetIn H pp pl P L) (hs : Sl H enc3 3 ps s) (hsl : s.length < 2 ^ 63) (hsr : ∀ x ∈ s, -2 ^ 63 ≤ x.2.1 ∧ x.2.1 < 2 ^ 63) :
    CallR E mp lim 33 [.agg (netV pp P.length cp pl L.length cl).toArray, .int .i64 p, .int .i64 q, .int .i64 t, .slice ps s.length cs] H Q = Q (.bool (decide (errA P L p q t = 0) && rightN L p t s q)) H := by
  refine pc (by decide) e33 rfl rfl ?_
  rw [b33, c33]
  simp only [n33, r33, netV_len, netV_0, netV_1, take_all, SB, Nat.reduceLT, callee, aOp, ne_eq, Nat.reduceEqDiff, aBin, aUn, if_true, if_false, reduceCtorEq, frame0, place, notTuple, Nat.reduceAdd, Nat.reduceLeDiff, resVal, dite_true, dite_false, Int.reduceEq, Int.reduceLT, Int.reduceLE]
  refine allowed_ok (hn.app _) (by simp) (fun H' he hE => ?_) (fun H' R he hE hm hR => ?_)
  · refine Ret_pad ?_
    simp only [n33, r33, he, eq_false he, SB, Nat.reduceLT, callee, aOp, ne_eq, Nat.reduceEqDiff, aBin, aUn, if_true, if_false, reduceCtorEq, frame0, place, notTuple, Nat.reduceAdd, Nat.reduceLeDiff, resVal, dite_true, dite_false, Int.reduceEq, Int.reduceLT, Int.reduceLE]
    simp [he]
  obtain ⟨hv, hp, hq, ht0, ht1⟩ := errA_0 he
  obtain ⟨v1, v2, v3, v4⟩ := validN_0 hv
  have hno := valid_net hv
  have hid := legs_ids v4
  rw [he, decide_eq_true rfl, Bool.true_and]
  have hB : hget H' H.length = .cells false (netV pp P.length cp pl L.length cl) := hE.cells hget_new0
  have hBX := fun X => (Ext.refl.app (X := X)).cells hB
  have hEH : Ext H H' := by obtain ⟨Y, rfl⟩ := hE; rw [List.append_assoc]; exact Ext.refl.app
  have hl1 := hEH.len
  refine Ret_pad ?_
  simp only [n33, r33, hBX, netV_len, netV_0, netV_1, hl1, SB, Nat.reduceLT, callee, aOp, ne_eq, Nat.reduceEqDiff, aBin, aUn, if_true, if_false, reduceCtorEq, frame0, place, notTuple, Nat.reduceAdd, Nat.reduceLeDiff, resVal, dite_true, dite_false, Int.reduceEq, Int.reduceLT, Int.reduceLE]
  -- the legs by their IDs
  refine Ret_rounds (fun i => L.length - i) (fun i fr G => i ≤ L.length ∧ fr 1 = .int .i64 p ∧ fr 2 = .int .i64 q ∧ fr 3 = .int .i64 t ∧ fr 4 = .slice ps s.length cs ∧ fr 13 = .map (some H'.length) ∧ fr 38 = .slice pl L.length cl ∧ fr 39 = .int .i64 (L.length : Int) ∧ fr 40 = .int .i64 (i : Int) ∧ hget G H'.length = .map (legMap (L.take i)) ∧ Ext H' G) 0
    ⟨Nat.zero_le _, (by simp only [FB, Nat.reduceEqDiff]), (by simp only [FB, Nat.reduceEqDiff]), (by simp only [FB, Nat.reduceEqDiff]), (by simp only [FB, Nat.reduceEqDiff]), (by simp only [FB, Nat.reduceEqDiff]), (by simp only [FB, Nat.reduceEqDiff]), (by simp only [FB, Nat.reduceEqDiff]), by rfl, hget_new0, Ext.refl.app⟩ ?_
  intro i fr G ⟨hi, f1, f2, f3, f4, f13, f38, f39, f40, hM, hX⟩ hN
  rw [Ret_code l33_2.eq_1]
  refine Ret_pad ?_
  have hMl := hget_alive' hM
  have hM' : ∀ X, hget (G ++ X) H'.length = .map (legMap (L.take i)) := fun X => by rw [hget_old hMl]; exact hM
  by_cases hlt : i < L.length
  case pos =>
    have hsl := hX.sl (hEH.sl hn.sl)
    have hld := fun X => (hsl.app X).loadCells encL_len hlt
    have hidx := fun c (k : IntKind) (H1 : Heap) => hsl.idx (c := c) (k := k) (H1 := H1) hlt
    have hw1 : IntKind.i64.wrap ((i : Int) + 1) = ((i + 1 : Nat) : Int) := wrap_nat (by omega)
    have hlG := hX.len
    have hnk : findKey (.int .i64 (gt L i).id) (legMap (L.take i)) 0 = some none := by
      refine leg_no (List.find?_eq_none.2 fun x hx hh => ?_)
      have h2 := (v4 i hlt).2.1
      exact h2 (List.mem_map.2 ⟨x, hx, by simpa using hh⟩)
    simp only [n33, r33, f13, f38, f39, f40, hlt, hld, hidx, hw1, encL_len, encL_0, encL_1, encL_2, encL_3, encL_4, encL_5, encL_6, encL_7, take_all, setAll_full, hM', hnk, show H.length ≤ G.length by omega, hl1, SB, Nat.reduceLT, callee, aOp, ne_eq, Nat.reduceEqDiff, aBin, aUn, if_true, if_false, reduceCtorEq, frame0, place, notTuple, Nat.reduceAdd, Nat.reduceLeDiff, resVal, dite_true, dite_false, Int.reduceEq, Int.reduceLT, Int.reduceLE]
    refine hN (i + 1) _ _ ⟨by omega, (by simp only [f1, FB, Nat.reduceEqDiff]), (by simp only [f2, FB, Nat.reduceEqDiff]), (by simp only [f3, FB, Nat.reduceEqDiff]), (by simp only [f4, FB, Nat.reduceEqDiff]), (by simp only [f13, FB, Nat.reduceEqDiff]), (by simp only [f38, FB, Nat.reduceEqDiff]), (by simp only [f39, FB, Nat.reduceEqDiff]), (by simp only [FB, Nat.reduceEqDiff]), ?_, ?_⟩ (by omega)
    · rw [hget_set_eq (by simp; omega), take_snoc hlt]; simp [legMap]
    · obtain ⟨Y, rfl⟩ := hX
      exact ⟨_, by rw [List.append_assoc, set_new0]⟩
  obtain rfl : i = L.length := by omega
  rw [List.take_length] at hM hM'
  simp only [n33, r33, f1, f3, f4, f13, f38, f39, f40, hlt, SB, Nat.reduceLT, callee, aOp, ne_eq, Nat.reduceEqDiff, aBin, aUn, if_true, if_false, reduceCtorEq, frame0, place, notTuple, Nat.reduceAdd, Nat.reduceLeDiff, resVal, dite_true, dite_false, Int.reduceEq, Int.reduceLT, Int.reduceLE]
  -- the stops
  refine Ret_rounds (fun x : Nat × Int × Int => s.length - x.1) (fun x fr G' => x.1 ≤ s.length ∧ fr 2 = .int .i64 q ∧ fr 13 = .map (some H'.length) ∧ fr 16 = .int .i64 x.2.1 ∧ fr 17 = .int .i64 x.2.2 ∧ fr 51 = .slice ps s.length cs ∧ fr 52 = .int .i64 (s.length : Int) ∧ fr 53 = .int .i64 (x.1 : Int) ∧ Ext G G' ∧ rightN L p t s q = rightN L x.2.1 x.2.2 (s.drop x.1) q) (0, p, t)
    ⟨Nat.zero_le _, (by simp only [f2, FB, Nat.reduceEqDiff]), (by simp only [f13, FB, Nat.reduceEqDiff]), (by simp only [FB, Nat.reduceEqDiff]), (by simp only [FB, Nat.reduceEqDiff]), (by simp only [FB, Nat.reduceEqDiff]), (by simp only [FB, Nat.reduceEqDiff]), by rfl, Ext.refl.app, rfl⟩ ?_
  rintro ⟨i, plant, there⟩ fr2 G2 ⟨hi, g2, g13, g16, g17, g51, g52, g53, hX2, heq⟩ hN
  simp only at hi g16 g17 g53 heq
  rw [Ret_code l33_1.eq_1]
  refine Ret_pad ?_
  by_cases hlt2 : i < s.length
  case neg =>
    obtain rfl : i = s.length := by omega
    rw [List.drop_length, rightN] at heq
    simp only [n33, r33, g2, g13, g16, g17, g51, g52, g53, hlt2, heq, SB, Nat.reduceLT, callee, aOp, ne_eq, Nat.reduceEqDiff, aBin, aUn, if_true, if_false, reduceCtorEq, frame0, place, notTuple, Nat.reduceAdd, Nat.reduceLeDiff, resVal, dite_true, dite_false, Int.reduceEq, Int.reduceLT, Int.reduceLE]
  have hMG : ∀ X, hget (G2 ++ X) H'.length = .map (legMap L) := fun X => by
    obtain ⟨Y, rfl⟩ := hX2
    rw [List.append_assoc, hget_old hMl]; exact hM
  have hss := (hX2.sl (hX.sl (hEH.sl hs)))
  have hld := fun X => (hss.app X).loadCells enc3_len hlt2
  have hidx := fun c (k : IntKind) (H1 : Heap) => hss.idx (c := c) (k := k) (H1 := H1) hlt2
  have hw1 : IntKind.i64.wrap ((i : Int) + 1) = ((i + 1 : Nat) : Int) := wrap_nat (by omega)
  have hlG := hX.len
  have hlG2 := hX2.len
  have hin := hsr _ (gt_mem hlt2)
  rw [List.drop_eq_getElem_cons hlt2, ← gt_lt hlt2] at heq
  generalize hgx : gt s i = x at *
  obtain ⟨x1, x2, x3⟩ := x
  simp only at hin
  have hdr := tdiv_range hin.1 hin.2
  have wd : IntKind.i64.wrap (Int.tdiv x2 1440) = Int.tdiv x2 1440 := wrap_id (by omega) (by omega)
  cases hf : L.find? (fun l => l.id = x1) with
  | none =>
    have hk := leg_no (i := 0) hf
    have e : rightN L plant there ((x1, x2, x3) :: s.drop (i + 1)) q = false := by simp only [rightN, okStop, hf]
    rw [← heq] at e
    simp only [n33, r33, g2, g13, g16, g17, g51, g52, g53, hlt2, hld, hidx, hw1, hMG, enc3, setAll_full, show H.length ≤ G2.length by omega, wd, List.take_succ_cons, hk, e, SB, Nat.reduceLT, callee, aOp, ne_eq, Nat.reduceEqDiff, aBin, aUn, if_true, if_false, reduceCtorEq, frame0, place, notTuple, Nat.reduceAdd, Nat.reduceLeDiff, resVal, dite_true, dite_false, Int.reduceEq, Int.reduceLT, Int.reduceLE]
  | some l =>
    obtain ⟨j, hk⟩ := leg_yes (i := 0) hid hf
    obtain ⟨hl, hi1⟩ := find_id hf
    have hfl := hno.fine l hl
    have hon := fun (H : Heap) (mp : Bool) (lim : Nat) (Q : Value → Heap → Prop) => on_ok (mp := mp) (lim := lim) (H := H) (Q := Q) (l := l) (d := Int.tdiv x2 1440) hfl
    change ∀ (H : Heap) (mp : Bool) (lim : Nat) (Q : Value → Heap → Prop), _ = Q (depV (onDay l (Int.tdiv x2 1440))) H at hon
    have e : rightN L plant there ((x1, x2, x3) :: s.drop (i + 1)) q = match (if l.frm = plant ∧ onDay l (Int.tdiv x2 1440) = some (x2, x3) ∧ there ≤ x2 - l.cut then some (l.dst, x3) else none) with
      | none => false
      | some (p', t') => rightN L p' t' (s.drop (i + 1)) q := by simp only [rightN, okStop, hf]
    rw [← heq] at e
    by_cases hfr : l.frm = plant
    case neg =>
      rw [if_neg fun h => hfr h.1] at e
      simp only [n33, r33, g2, g13, g16, g17, g51, g52, g53, hlt2, hld, hidx, hw1, hMG, enc3, setAll_full, show H.length ≤ G2.length by omega, wd, List.take_succ_cons, encL_len, encL_0, encL_1, encL_2, encL_3, encL_4, encL_5, encL_6, encL_7, take_all, hk, e, eq_false hfr, SB, Nat.reduceLT, callee, aOp, ne_eq, Nat.reduceEqDiff, aBin, aUn, if_true, if_false, reduceCtorEq, frame0, place, notTuple, Nat.reduceAdd, Nat.reduceLeDiff, resVal, dite_true, dite_false, Int.reduceEq, Int.reduceLT, Int.reduceLE]
    cases ho : onDay l (Int.tdiv x2 1440) with
    | none =>
      rw [ho] at hon e
      simp only [depV] at hon
      rw [if_neg fun h => by cases h.2.1] at e
      simp only [n33, r33, g2, g13, g16, g17, g51, g52, g53, hlt2, hld, hidx, hw1, hMG, enc3, setAll_full, show H.length ≤ G2.length by omega, wd, List.take_succ_cons, encL_len, encL_0, encL_1, encL_2, encL_3, encL_4, encL_5, encL_6, encL_7, take_all, hk, e, eq_true hfr, hon, SB, Nat.reduceLT, callee, aOp, ne_eq, Nat.reduceEqDiff, aBin, aUn, if_true, if_false, reduceCtorEq, frame0, place, notTuple, Nat.reduceAdd, Nat.reduceLeDiff, resVal, dite_true, dite_false, Int.reduceEq, Int.reduceLT, Int.reduceLE]
    | some ab =>
      obtain ⟨a, b⟩ := ab
      rw [ho] at hon e
      simp only [depV] at hon
      obtain ⟨⟨d, hd1, hd2, hd3⟩, hb⟩ : Dep l a ∧ b = a + l.mins := by
        unfold onDay at ho
        split at ho
        case isFalse => cases ho
        rename_i hd
        unfold depOn at ho
        split at ho
        case isFalse => cases ho
        rename_i hg
        simp only [Option.some.injEq, Prod.mk.injEq] at ho
        exact ⟨⟨_, by rw [dayN_eq]; omega, hg, ho.1.symm⟩, by omega⟩
      have hF := hfl
      unfold Fine at hF
      rw [dayN_eq] at hd1
      have wc : IntKind.i64.wrap (a - l.cut) = a - l.cut := wrap_id (by omega) (by omega)
      by_cases h1 : a = x2
      case neg =>
        rw [if_neg fun h => h1 (by have := h.2.1; simp only [Option.some.injEq, Prod.mk.injEq] at this; exact this.1)] at e
        simp only [n33, r33, g2, g13, g16, g17, g51, g52, g53, hlt2, hld, hidx, hw1, hMG, enc3, setAll_full, show H.length ≤ G2.length by omega, wd, List.take_succ_cons, encL_len, encL_0, encL_1, encL_2, encL_3, encL_4, encL_5, encL_6, encL_7, take_all, hk, e, eq_true hfr, hon, eq_false h1, SB, Nat.reduceLT, callee, aOp, ne_eq, Nat.reduceEqDiff, aBin, aUn, if_true, if_false, reduceCtorEq, frame0, place, notTuple, Nat.reduceAdd, Nat.reduceLeDiff, resVal, dite_true, dite_false, Int.reduceEq, Int.reduceLT, Int.reduceLE]
      by_cases h2 : b = x3
      case neg =>
        rw [if_neg fun h => h2 (by have := h.2.1; simp only [Option.some.injEq, Prod.mk.injEq] at this; exact this.2)] at e
        simp only [n33, r33, g2, g13, g16, g17, g51, g52, g53, hlt2, hld, hidx, hw1, hMG, enc3, setAll_full, show H.length ≤ G2.length by omega, wd, List.take_succ_cons, encL_len, encL_0, encL_1, encL_2, encL_3, encL_4, encL_5, encL_6, encL_7, take_all, hk, e, eq_true hfr, hon, eq_true h1, eq_false h2, SB, Nat.reduceLT, callee, aOp, ne_eq, Nat.reduceEqDiff, aBin, aUn, if_true, if_false, reduceCtorEq, frame0, place, notTuple, Nat.reduceAdd, Nat.reduceLeDiff, resVal, dite_true, dite_false, Int.reduceEq, Int.reduceLT, Int.reduceLE]
      by_cases h3 : a - l.cut < there
      · rw [if_neg fun h => by have := h.2.2; omega] at e
        simp only [n33, r33, g2, g13, g16, g17, g51, g52, g53, hlt2, hld, hidx, hw1, hMG, enc3, setAll_full, show H.length ≤ G2.length by omega, wd, List.take_succ_cons, encL_len, encL_0, encL_1, encL_2, encL_3, encL_4, encL_5, encL_6, encL_7, take_all, hk, e, eq_true hfr, hon, eq_true h1, eq_true h2, wc, eq_true h3, SB, Nat.reduceLT, callee, aOp, ne_eq, Nat.reduceEqDiff, aBin, aUn, if_true, if_false, reduceCtorEq, frame0, place, notTuple, Nat.reduceAdd, Nat.reduceLeDiff, resVal, dite_true, dite_false, Int.reduceEq, Int.reduceLT, Int.reduceLE]
      · rw [if_pos ⟨hfr, by rw [h1, h2], by omega⟩] at e
        simp only at e
        simp only [n33, r33, g2, g13, g16, g17, g51, g52, g53, hlt2, hld, hidx, hw1, hMG, enc3, setAll_full, show H.length ≤ G2.length by omega, wd, List.take_succ_cons, encL_len, encL_0, encL_1, encL_2, encL_3, encL_4, encL_5, encL_6, encL_7, take_all, hk, eq_true hfr, hon, eq_true h1, eq_true h2, wc, eq_false h3, SB, Nat.reduceLT, callee, aOp, ne_eq, Nat.reduceEqDiff, aBin, aUn, if_true, if_false, reduceCtorEq, frame0, place, notTuple, Nat.reduceAdd, Nat.reduceLeDiff, resVal, dite_true, dite_false, Int.reduceEq, Int.reduceLT, Int.reduceLE]
        exact hN (i + 1, l.dst, b) _ _ ⟨by show i + 1 ≤ s.length; omega, (by simp only [g2, FB, Nat.reduceEqDiff]), (by simp only [g13, FB, Nat.reduceEqDiff]), (by simp only [FB, Nat.reduceEqDiff]), (by simp only [FB, Nat.reduceEqDiff]), (by simp only [g51, FB, Nat.reduceEqDiff]), (by simp only [g52, FB, Nat.reduceEqDiff]), (by simp only [FB, Nat.reduceEqDiff]), hX2.app, by rw [h2]; exact e⟩ (by show s.length - (i + 1) < s.length - i; omega)
end Go.Proofs.Ytcmhnincbkbncaa.Fn
namespace Go.Proofs.Ytcmhnincbkbncaa.Fn
open Go.AM Go.AM.Sym Go.Net
set_option maxRecDepth 100000
set_option linter.unusedVariables false
set_option linter.unusedSimpArgs false
set_option maxHeartbeats 4000000

/-- What a slice of numbers of one's own is read as. -/
theorem ld_ints {H : Heap} {q : Option Addr} {T : List Int} {i : Nat} (h : Sl H encI 1 q T) (hi : i < T.length) : ∀ X, AM.loadCell (H ++ X) (elt q 1 i) = some (.int .i64 (gt T i)) := fun X => by
  rw [(h.app X).loadCell0 encI_len hi (by decide)]; rfl
theorem ix_ints {H : Heap} {q : Option Addr} {T : List Int} {i n : Nat} (h : Sl H encI 1 q T) (hi : i < n) (hT : T.length = n) : ∀ (c : Nat) (k : IntKind) (H1 : Heap), idxK 1 (.slice q n c) (.int k (i : Int)) H1 = some (.pointer (some (elt q 1 i)), H1) := fun c k H1 => by
  subst hT; exact h.idx hi
theorem gt_getD {T : List Int} {i : Nat} (h : i < T.length) : gt T i = T.getD i (-1) := by
  rw [gt_lt h, List.getD_eq_getElem?_getD, List.getElem?_eq_getElem h]; rfl
theorem fits_err {P : List Int} {L : List Leg} {a b t : Int} (h : fitsP P L a b t) : errA P L a b t = 0 := by
  unfold errA
  rw [if_neg (by simpa using h.2.1), if_pos h.2.2]

theorem btt : (true == true) = true := id rfl
theorem btf : (true == false) = false := id rfl
theorem bft : (false == true) = false := id rfl
theorem bff : (false == false) = true := id rfl
def pickN (a n : Int) : Int := if n < 1 then 0 else if Int.tmod a n < 0 then Int.tmod a n + n else Int.tmod a n
theorem pickN_range {a n : Int} (h : 1 ≤ n) : 0 ≤ pickN a n ∧ pickN a n < n := by
  unfold pickN
  rw [if_neg (by omega)]
  have h1 := Int.lt_tmod_of_pos a (show 0 < n by omega)
  have h2 := Int.tmod_lt_of_pos a (show 0 < n by omega)
  split <;> omega
theorem pick_ok [OB] {mp : Bool} {lim : Nat} {a n : Int} {H : Heap} {Q : Value → Heap → Prop} (hn : n < 2 ^ 62) : CallR E mp lim 26 [.int .i64 a, .int .i64 n] H Q = Q (.int .i64 (pickN a n)) H := by
  refine pc (by decide) e26 rfl rfl ?_
  rw [b26, c26]
  by_cases h1 : n < 1
  · simp only [n26, r26, h1, SB, Nat.reduceLT, callee, aOp, ne_eq, Nat.reduceEqDiff, aBin, aUn, if_true, if_false, reduceCtorEq, frame0, place, notTuple, Nat.reduceAdd, Nat.reduceLeDiff, resVal, dite_true, dite_false, Int.reduceEq, Int.reduceLT, Int.reduceLE]
    rw [pickN, if_pos h1]
  · have h0 : ¬ n = 0 := by omega
    by_cases h2 : Int.tmod a n < 0
    · have hr := pickN_range (a := a) (show 1 ≤ n by omega)
      rw [pickN, if_neg h1, if_pos h2] at hr
      have w : IntKind.i64.wrap (Int.tmod a n + n) = Int.tmod a n + n := wrap_id (by omega) (by omega)
      simp only [n26, r26, h1, h0, h2, w, SB, Nat.reduceLT, callee, aOp, ne_eq, Nat.reduceEqDiff, aBin, aUn, if_true, if_false, reduceCtorEq, frame0, place, notTuple, Nat.reduceAdd, Nat.reduceLeDiff, resVal, dite_true, dite_false, Int.reduceEq, Int.reduceLT, Int.reduceLE]
      rw [pickN, if_neg h1, if_pos h2]
    · simp only [n26, r26, h1, h0, h2, SB, Nat.reduceLT, callee, aOp, ne_eq, Nat.reduceEqDiff, aBin, aUn, if_true, if_false, reduceCtorEq, frame0, place, notTuple, Nat.reduceAdd, Nat.reduceLeDiff, resVal, dite_true, dite_false, Int.reduceEq, Int.reduceLT, Int.reduceLE]
      rw [pickN, if_neg h1, if_neg h2]

theorem plants_iff {P : List Int} : PlantsOk P ↔ (∀ p ∈ P, 1 ≤ p ∧ p ≤ 999999) ∧ P.Nodup := by
  constructor
  · intro h
    refine ⟨fun p hp => ?_, ?_⟩
    · obtain ⟨i, hi, rfl⟩ := List.mem_iff_getElem.1 hp
      have := h i hi
      unfold pOk at this
      rw [gt_lt hi] at this
      exact ⟨this.1, this.2.1⟩
    · unfold List.Nodup
      rw [List.pairwise_iff_getElem]
      intro i j hi hj hij e
      have h2 := (h j hj).2.2
      rw [gt_lt hj] at h2
      exact h2 (List.mem_take_iff_getElem.2 ⟨i, by omega, e⟩)
  · rintro ⟨h1, h2⟩ i hi
    unfold pOk
    rw [gt_lt hi]
    refine ⟨(h1 _ (List.getElem_mem hi)).1, (h1 _ (List.getElem_mem hi)).2, fun hm => ?_⟩
    obtain ⟨j, hj, e⟩ := List.mem_take_iff_getElem.1 hm
    unfold List.Nodup at h2
    rw [List.pairwise_iff_getElem] at h2
    exact h2 j i (by omega) hi (by omega) e
theorem legs_iff {P : List Int} {L : List Leg} : LegsOk P L ↔ (∀ l ∈ L, Fine l ∧ l.frm ∈ P ∧ l.dst ∈ P) ∧ L.Pairwise (fun a b => a.id ≠ b.id) := by
  constructor
  · intro h
    refine ⟨fun l hl => ?_, legs_ids h⟩
    obtain ⟨i, hi, rfl⟩ := List.mem_iff_getElem.1 hl
    have := h i hi
    unfold lOk at this
    rw [gt_lt hi] at this
    exact ⟨this.1, this.2.2⟩
  · rintro ⟨h1, h2⟩ i hi
    unfold lOk
    rw [gt_lt hi]
    have h3 := h1 _ (List.getElem_mem hi)
    refine ⟨h3.1, fun hm => ?_, h3.2⟩
    obtain ⟨l, hl, e⟩ := List.mem_map.1 hm
    obtain ⟨j, hj, rfl⟩ := List.mem_take_iff_getElem.1 hl
    rw [List.pairwise_iff_getElem] at h2
    exact h2 j i (by omega) hi (by omega) e
theorem validN_of {P : List Int} {L : List Leg} (h1 : P.length ≤ 50) (h2 : L.length ≤ 200) (h3 : PlantsOk P) (h4 : LegsOk P L) : validN P L = 0 := by
  unfold validN
  rw [if_neg (by omega), if_neg (by simpa using h3), if_neg (by simpa using h4)]
theorem validN_perm {P P' : List Int} {L L' : List Leg} (h : validN P L = 0) (hp : P'.Perm P) (hl : L'.Perm L) : validN P' L' = 0 := by
  obtain ⟨h1, h2, h3, h4⟩ := validN_0 h
  rw [plants_iff] at h3
  rw [legs_iff] at h4
  refine validN_of (by rw [hp.length_eq]; exact h1) (by rw [hl.length_eq]; exact h2) (plants_iff.2 ⟨fun p hm => h3.1 p (hp.mem_iff.1 hm), hp.nodup_iff.2 h3.2⟩) (legs_iff.2 ⟨fun l hm => ?_, (hl.pairwise_iff (fun h e => h e.symm)).2 h4.2⟩)
  have := h4.1 l (hl.mem_iff.1 hm)
  exact ⟨this.1, hp.mem_iff.2 this.2.1, hp.mem_iff.2 this.2.2⟩
theorem ids_inj {L : List Leg} (h : L.Pairwise (fun a b => a.id ≠ b.id)) : ∀ a ∈ L, ∀ b ∈ L, a.id = b.id → a = b := by
  intro a ha b hb e
  obtain ⟨i, hi, rfl⟩ := List.mem_iff_getElem.1 ha
  obtain ⟨j, hj, rfl⟩ := List.mem_iff_getElem.1 hb
  rw [List.pairwise_iff_getElem] at h
  rcases Nat.lt_trichotomy i j with h1 | h1 | h1
  · exact absurd e (h i j hi hj h1)
  · subst h1; rfl
  · exact absurd e.symm (h j i hj hi h1)
theorem _root_.Go.AM.Sl.app2 {α : Type} {H : Heap} {enc : α → List Value} {e : Nat} {p : Option Addr} {l : List α} (h : Sl H enc e p l) : Sl (H ++ []) enc e p l := h.app []
end Go.Proofs.Ytcmhnincbkbncaa.Fn
namespace Go.Proofs.Ytcmhnincbkbncaa.Fn
open Go.AM Go.AM.Sym Go.Net
set_option maxRecDepth 100000
set_option linter.unusedVariables false
set_option linter.unusedSimpArgs false
set_option maxHeartbeats 4000000

/-- From a stop of the best way on the rest of it is a way with the earliest arrival. -/
theorem isWay_drop {L : List Leg} : ∀ {w : List (Leg × Int)} {p t q u : Int} {i : Nat} (hi : i < w.length), IsWay L p t w q u → IsWay L (w[i].1.dst) (w[i].2 + w[i].1.mins) (w.drop (i + 1)) q u ∧ w[i].1 ∈ L ∧ Dep w[i].1 w[i].2 ∧ Go.Net.Way L (i + 1) p t (w[i].1.dst) (w[i].2 + w[i].1.mins)
  | (l, a) :: w, p, t, q, u, 0, hi, h => ⟨h.2.2.2.2, h.1, h.2.2.1, .cons h.1 h.2.1 h.2.2.1 h.2.2.2.1 (.nil _ _)⟩
  | (l, a) :: w, p, t, q, u, i + 1, hi, h => by
    obtain ⟨h1, h2, h3, h4⟩ := isWay_drop (w := w) (i := i) (by simpa using hi) h.2.2.2.2
    exact ⟨h1, h2, h3, .cons h.1 h.2.1 h.2.2.1 h.2.2.2.1 h4⟩
theorem isWay_mem {L : List Leg} : ∀ {w : List (Leg × Int)} {p t q u : Int}, IsWay L p t w q u → ∀ x ∈ w, x.1 ∈ L ∧ Dep x.1 x.2
  | (l, a) :: w, p, t, q, u, h, x, hx => by
    rcases List.mem_cons.1 hx with rfl | hx
    · exact ⟨h.1, h.2.2.1⟩
    · exact isWay_mem h.2.2.2.2 x hx
theorem dep_range {l : Leg} {a : Int} (hl : Fine l) (h : Dep l a) : 0 ≤ a ∧ a + l.mins ≤ maxTime ∧ 1 ≤ l.mins := by
  have h0 := h.nonneg hl
  obtain ⟨d, hd1, hd2, rfl⟩ := h
  unfold goes at hd2
  simp only [Bool.and_eq_true, decide_eq_true_eq] at hd2
  unfold Fine at hl
  exact ⟨h0, hd2.2, by omega⟩
theorem stops_range {L : List Leg} (hf : ∀ l ∈ L, Fine l) {w : List (Leg × Int)} {p t q u : Int} (h : IsWay L p t w q u) : ∀ x ∈ w.map stopOf, -2 ^ 63 ≤ x.2.1 ∧ x.2.1 < 2 ^ 63 := by
  intro x hx
  obtain ⟨y, hy, rfl⟩ := List.mem_map.1 hx
  obtain ⟨h1, h2⟩ := isWay_mem h y hy
  have := dep_range (hf _ h1) h2
  unfold maxTime at this
  show -2 ^ 63 ≤ y.2 ∧ y.2 < 2 ^ 63
  omega
theorem joined_end {L : List Leg} {p t q v m s x : Int} {k j : Nat} (hL : ∀ l ∈ L, Fine l) (hva : IsArr L p t q v) (hv0 : 0 ≤ v) (h1 : Go.Net.Way L k p t m s) (h2 : Go.Net.Way L j m s q v) (hx : IsArr L m s q x) : x = v := by
  refine hx.uniq (.inr ⟨⟨⟨j, h2⟩, ?_⟩, fun u ⟨⟨i, hu⟩, hul⟩ => ?_⟩)
  · have := (hva.ge hL hv0).2
    have := h1.later hL
    omega
  · rcases Int.lt_or_le u v with h | h
    · have := (hva.ge hL hv0).2
      exact hva.le ⟨⟨_, h1.trans hu⟩, by omega⟩
    · exact h
theorem Way.dst_in {P : List Int} {L : List Leg} (hn : NetOk 50 P L (posN P)) {k : Nat} {p t q u : Int} (h : Go.Net.Way L k p t q u) (hp : p ∈ P) : q ∈ P := by
  induction h with
  | nil => exact hp
  | snoc _ hl _ _ _ _ => exact hn.dst _ hl
theorem Way.some {L : List Leg} {k : Nat} {p t q u : Int} (h : Go.Net.Way L k p t q u) (hk : k ≠ 0) : ∃ l ∈ L, l.dst = q := by
  cases h with
  | nil => exact absurd rfl hk
  | snoc _ hl _ _ _ => exact ⟨_, hl, rfl⟩

theorem find_net {L : List Leg} (hid : L.Pairwise (fun a b => a.id ≠ b.id)) {l : Leg} (hl : l ∈ L) : L.find? (fun x => x.id = l.id) = some l := find_mem hid hl

def tail10 : ACode := tlC (tlC (tlC (tlC (tlC c10))))
theorem arr_le {L : List Leg} {p t q v : Int} (h : IsArr L p t q v) (ht : t ≤ maxTime) (h0 : 0 ≤ t) : v ≤ maxTime := by
  rcases h with ⟨rfl, _⟩ | ⟨⟨⟨j, hw⟩, _⟩, _⟩
  · omega
  · cases hw with
    | nil => exact ht
    | snoc _ hl _ hd _ =>
      obtain ⟨d, hd1, hd2, rfl⟩ := hd
      unfold goes at hd2
      simp only [Bool.and_eq_true, decide_eq_true_eq] at hd2
      exact hd2.2
end Go.Proofs.Ytcmhnincbkbncaa.Fn
namespace Go.Proofs.Ytcmhnincbkbncaa.Fn
open Go.AM Go.AM.Sym Go.Net
set_option maxRecDepth 100000
set_option linter.unusedVariables false
set_option linter.unusedSimpArgs false
set_option maxHeartbeats 4000000

def lessS : List (Int × Int × Int) → List (Int × Int × Int) → Bool
  | x :: a, y :: b => if x.1 = y.1 then lessS a b else decide (x.1 < y.1)
  | [], b => decide (0 < b.length)
  | _ :: _, [] => false
theorem lessS_lex : ∀ {a b : List (Int × Int × Int)}, a.length = b.length → (lessS a b = true ↔ lexL (a.map (·.1)) (b.map (·.1)))
  | [], [], _ => by simp [lessS, lexL]
  | [], _ :: _, h => by simp at h
  | _ :: _, [], h => by simp at h
  | x :: a, y :: b, h => by
    simp only [lessS, List.map_cons, lexL]
    by_cases e : x.1 = y.1
    · rw [if_pos e, lessS_lex (by simpa using h)]
      constructor
      · exact fun h => .inr ⟨e, h⟩
      · rintro (h1 | h1)
        · omega
        · exact h1.2
    · rw [if_neg e, decide_eq_true_eq]
      constructor
      · exact .inl
      · rintro (h1 | h1)
        · exact h1
        · exact absurd h1.1 e
theorem ids_stops {w : List (Leg × Int)} : (w.map stopOf).map (·.1) = idsW w := by
  rw [List.map_map]; rfl
theorem less_ok [OB] {mp : Bool} {lim ca cb : Nat} {p q : Option Addr} {a b : List (Int × Int × Int)} {H : Heap} {Q : Value → Heap → Prop} (ha : Sl H enc3 3 p a) (hb : Sl H enc3 3 q b) (hn : a.length < 2 ^ 63) :
    CallR E mp lim 36 [.slice p a.length ca, .slice q b.length cb] H Q = Q (.bool (lessS a b)) H := by
  refine pc (by decide) e36 rfl rfl ?_
  rw [b36, c36]
  simp only [n36, r36, SB, Nat.reduceLT, callee, aOp, ne_eq, Nat.reduceEqDiff, aBin, aUn, if_true, if_false, reduceCtorEq, frame0, place, notTuple, Nat.reduceAdd, Nat.reduceLeDiff, resVal, dite_true, dite_false, Int.reduceEq, Int.reduceLT, Int.reduceLE]
  refine Ret_rounds (fun j => a.length - j) (fun j fr G => j ≤ a.length ∧ j ≤ b.length ∧ fr 0 = .slice p a.length ca ∧ fr 1 = .slice q b.length cb ∧ fr 5 = .int .i64 (j : Int) ∧ Ext H G ∧ lessS a b = lessS (a.drop j) (b.drop j)) 0 ⟨Nat.zero_le _, Nat.zero_le _, (by simp only [FB, Nat.reduceEqDiff]), (by simp only [FB, Nat.reduceEqDiff]), by rfl, Ext.refl.app, rfl⟩ ?_
  intro j fr G ⟨hj, hjb, f0, f1, f5, hE, heq⟩ hN
  rw [Ret_code l36_1.eq_1]
  refine Ret_pad ?_
  by_cases hla : j < a.length
  case neg =>
    obtain rfl : j = a.length := by omega
    rw [List.drop_length, lessS, List.length_drop] at heq
    simp only [n36, r36, f0, f1, f5, hla, SB, Nat.reduceLT, callee, aOp, ne_eq, Nat.reduceEqDiff, aBin, aUn, if_true, if_false, reduceCtorEq, frame0, place, notTuple, Nat.reduceAdd, Nat.reduceLeDiff, resVal, dite_true, dite_false, Int.reduceEq, Int.reduceLT, Int.reduceLE]
    rw [heq]
    congr 2
    exact propext (by omega)
  by_cases hlb : j < b.length
  case neg =>
    obtain rfl : j = b.length := by omega
    rw [List.drop_length, List.drop_eq_getElem_cons hla, lessS] at heq
    have h1 : ¬ a.length < b.length := by omega
    simp only [n36, r36, f0, f1, f5, hla, hlb, SB, Nat.reduceLT, callee, aOp, ne_eq, Nat.reduceEqDiff, aBin, aUn, if_true, if_false, reduceCtorEq, frame0, place, notTuple, Nat.reduceAdd, Nat.reduceLeDiff, resVal, dite_true, dite_false, Int.reduceEq, Int.reduceLT, Int.reduceLE]
    rw [heq]
    congr 2
    rw [decide_eq_false]; omega
  have l1 := fun X => ((hE.sl ha).app X).loadCell enc3_len hla (j := 0) (by decide)
  have l2 := fun X => ((hE.sl hb).app X).loadCell enc3_len hlb (j := 0) (by decide)
  simp only [enc3, List.getElem?_cons_zero] at l1 l2
  have x1 := fun c (kk : IntKind) (H1 : Heap) => (hE.sl ha).idx (c := c) (k := kk) (H1 := H1) hla
  have x2 := fun c (kk : IntKind) (H1 : Heap) => (hE.sl hb).idx (c := c) (k := kk) (H1 := H1) hlb
  have hw1 : IntKind.i64.wrap ((j : Int) + 1) = ((j + 1 : Nat) : Int) := wrap_nat (by omega)
  rw [List.drop_eq_getElem_cons hla, List.drop_eq_getElem_cons hlb, lessS, ← gt_lt hla, ← gt_lt hlb] at heq
  by_cases he : (gt a j).1 = (gt b j).1
  · rw [if_pos he] at heq
    simp only [n36, r36, f0, f1, f5, hla, hlb, l1, l2, x1, x2, hw1, eq_true he, SB, Nat.reduceLT, callee, aOp, ne_eq, Nat.reduceEqDiff, aBin, aUn, if_true, if_false, reduceCtorEq, frame0, place, notTuple, Nat.reduceAdd, Nat.reduceLeDiff, resVal, dite_true, dite_false, Int.reduceEq, Int.reduceLT, Int.reduceLE]
    exact hN (j + 1) _ _ ⟨by omega, by omega, (by simp only [f0, FB, Nat.reduceEqDiff]), (by simp only [f1, FB, Nat.reduceEqDiff]), (by simp only [FB, Nat.reduceEqDiff]), hE.app, heq⟩ (by omega)
  · rw [if_neg he] at heq
    simp only [n36, r36, f0, f1, f5, hla, hlb, l1, l2, x1, x2, hw1, eq_false he, SB, Nat.reduceLT, callee, aOp, ne_eq, Nat.reduceEqDiff, aBin, aUn, if_true, if_false, reduceCtorEq, frame0, place, notTuple, Nat.reduceAdd, Nat.reduceLeDiff, resVal, dite_true, dite_false, Int.reduceEq, Int.reduceLT, Int.reduceLE]
    rw [heq]

/-- The arrival of the last stop. -/
def lastA (t : Int) (s : List (Int × Int × Int)) : Int := match s.getLast? with | none => t | some x => x.2.2
theorem lastA_way {L : List Leg} : ∀ {w : List (Leg × Int)} {p t q u : Int}, IsWay L p t w q u → lastA t (w.map stopOf) = u
  | [], p, t, q, u, h => h.2
  | (l, a) :: w, p, t, q, u, h => by
    have ih := lastA_way h.2.2.2.2
    cases w with
    | nil => exact h.2.2.2.2.2
    | cons y w =>
      unfold lastA at ih ⊢
      rw [List.map_cons, List.map_cons, List.getLast?_cons_cons, ← List.map_cons]
      exact ih
theorem lastA_gt {t : Int} {s : List (Int × Int × Int)} {n : Nat} (h : s.length = n + 1) : lastA t s = (gt s n).2.2 := by
  unfold lastA
  rw [List.getLast?_eq_getElem?, h, Nat.add_sub_cancel, List.getElem?_eq_getElem (by omega), gt_lt (by omega)]

/-! ### How often a plant was visited -/
def onceMap (l : List Int) : List (Value × Value) := l.map fun k => (.int .i64 k, .int .i64 1)
theorem once_no {l : List Int} {a : Int} {i : Nat} (h : a ∉ l) : findKey (.int .i64 a) (onceMap l) i = some none := by
  unfold onceMap
  exact findKey_no (f := fun k : Int => k) (g := fun _ => .int .i64 1) fun x hx e => h (e ▸ hx)
theorem once_add {l : List Int} {a : Int} : onceMap l ++ [(.int .i64 a, .int .i64 1)] = onceMap (l ++ [a]) := by simp [onceMap]
theorem once_yes {l : List Int} {a : Int} (h : a ∈ l) {i : Nat} : ∃ j, findKey (.int .i64 a) (onceMap l) i = some (some (j, .int .i64 1)) := by
  unfold onceMap
  exact findKey_yes (f := fun k : Int => k) (g := fun _ => .int .i64 1) ⟨a, h, rfl⟩ fun _ _ _ => rfl

theorem seen_loop [OB] {pp pl pw : Option Addr} {P : List Int} {L : List Leg} {cp cl cw R : Nat} {p q t v : Int} {w : List (Leg × Int)} {H G : Heap} {fr : Nat → Value} {K : List AItem} {Z : Value → Heap → Prop}
    (hn : NetIn H pp pl P L) (hid : L.Pairwise (fun a b => a.id ≠ b.id)) (hE : Chg [] H G) (hB : hget G H.length = .cells false (netV pp P.length cp pl L.length cl)) (hS : Sl G enc3 3 pw (w.map stopOf)) (hwl : w.length < 2 ^ 30) (hw : IsWay L p t w q v) (hnd : (p :: w.map (fun x => x.1.dst)).Nodup)
    (hR0 : hget G R = .map (onceMap [p])) (hRH : H.length ≤ R)
    (f5 : fr 5 = .pointer (some ⟨H.length, 0, none⟩)) (f13 : fr 13 = .slice pw w.length cw) (f19 : fr 19 = .map (some R)) (f20 : fr 20 = .int .i64 0)
    (hR : ∀ fr' G', Ext H G' → (∀ b ro c, hget G b = .cells ro c → hget G' b = .cells ro c) → fr' 4 = fr 4 → fr' 13 = fr 13 → fr' 15 = fr 15 → fr' 16 = fr 16 → fr' 17 = fr 17 → Ret E a9 H.length K fr' (G' ++ []) Z) :
    Ret E a9 H.length (.code (.loop l9_1) :: .inBlock 0 :: K) fr G Z := by
  refine Ret_rounds (fun i => w.length - i) (fun i fr' G' => i ≤ w.length ∧ fr' 4 = fr 4 ∧ fr' 15 = fr 15 ∧ fr' 16 = fr 16 ∧ fr' 17 = fr 17 ∧ fr' 5 = .pointer (some ⟨H.length, 0, none⟩) ∧ fr' 13 = .slice pw w.length cw ∧ fr' 19 = .map (some R) ∧ fr' 20 = .int .i64 (i : Int) ∧ Chg [R] G G' ∧ hget G' R = .map (onceMap (p :: (w.take i).map (fun x => x.1.dst)))) 0
    ⟨Nat.zero_le _, rfl, rfl, rfl, rfl, f5, f13, f19, f20, Chg.refl, hR0⟩ ?_
  intro i fr' G' ⟨hi, g4, g15, g16, g17, g5, g13, g19, g20, hC, hM⟩ hN
  have hRl := hget_alive' hR0
  have hEG : Chg [] H G' := hE.trans' hC fun j h1 h2 => by simp only [List.mem_singleton] at h1; omega
  have hl := hEG.len
  have hcell : ∀ b ro c, hget G b = .cells ro c → hget G' b = .cells ro c := fun b ro c hb => hC.cells hb (by simp only [List.mem_singleton]; rintro rfl; rw [hR0] at hb; cases hb)
  rw [Ret_code l9_1.eq_1]
  refine Ret_pad ?_
  by_cases hlt : i < w.length
  case neg =>
    obtain rfl : i = w.length := by omega
    simp only [n9, r9, g5, g13, g19, g20, hlt, SB, Nat.reduceLT, callee, aOp, ne_eq, Nat.reduceEqDiff, aBin, aUn, if_true, if_false, reduceCtorEq, frame0, place, notTuple, Nat.reduceAdd, Nat.reduceLeDiff, resVal, dite_true, dite_false, Int.reduceEq, Int.reduceLT, Int.reduceLE]
    exact hR _ _ hEG.ext hcell (by rw [← g4]; exact (by simp only [FB, Nat.reduceEqDiff])) (by rw [f13]; exact (by simp only [g13, FB, Nat.reduceEqDiff])) (by rw [← g15]; exact (by simp only [FB, Nat.reduceEqDiff])) (by rw [← g16]; exact (by simp only [FB, Nat.reduceEqDiff])) (by rw [← g17]; exact (by simp only [FB, Nat.reduceEqDiff]))
  obtain ⟨_, hlL, _, _⟩ := isWay_drop hlt hw
  generalize hwi : w[i] = x at *
  obtain ⟨l, a⟩ := x
  simp only at hlL
  have hnG := hn.ext hEG.ext
  have hBX := fun X => (Ext.refl.app (X := X)).cells (hcell _ _ _ hB)
  have hgt : gt (w.map stopOf) i = (l.id, a, a + l.mins) := by
    rw [gt_lt (by simpa using hlt), List.getElem_map, hwi]; rfl
  have hsl : Sl G' enc3 3 pw (w.map stopOf) := hS.sim hcell
  have hlm : i < (w.map stopOf).length := by simpa using hlt
  have ld0 := fun X => (hsl.app X).loadCell enc3_len hlm (j := 0) (by decide)
  rw [hgt] at ld0
  simp only [enc3, List.getElem?_cons_zero] at ld0
  have ix := fun c (k : IntKind) (H1 : Heap) => hsl.idx (c := c) (k := k) (H1 := H1) hlm
  rw [List.length_map] at ix
  have hw1 : IntKind.i64.wrap ((i : Int) + 1) = ((i + 1 : Nat) : Int) := wrap_nat (by omega)
  have w1 : IntKind.i64.wrap (0 + 1) = 1 := by decide
  have hfd := fun X (mp : Bool) (lim : Nat) (Q : Value → Heap → Prop) => find_ok (mp := mp) (lim := lim) (cp := cp) (cl := cl) (Q := Q) (a := l.id) (hnG.app X)
  rw [find_net hid hlL] at hfd
  simp only at hfd
  have hni : l.dst ∉ p :: (w.take i).map (fun x => x.1.dst) := by
    have e : p :: w.map (fun x => x.1.dst) = (p :: (w.take i).map (fun x => x.1.dst)) ++ (w.drop i).map (fun x => x.1.dst) := by
      rw [List.cons_append, ← List.map_append, List.take_append_drop]
    rw [e, List.nodup_append] at hnd
    intro hm
    refine hnd.2.2 _ hm l.dst ?_ rfl
    rw [List.drop_eq_getElem_cons hlt, hwi, List.map_cons]
    exact List.mem_cons_self ..
  have hk0 := once_no (i := 0) hni
  have hnew : onceMap (p :: (w.take i).map (fun x => x.1.dst)) ++ [(.int .i64 l.dst, .int .i64 1)] = onceMap (p :: (w.take (i + 1)).map (fun x => x.1.dst)) := by
    rw [once_add, List.cons_append, List.take_succ_eq_append_getElem hlt, hwi, List.map_append]; rfl
  obtain ⟨j, hk1⟩ := once_yes (l := p :: (w.take (i + 1)).map (fun x => x.1.dst)) (a := l.dst) (by
    rw [List.take_succ_eq_append_getElem hlt, hwi, List.map_append]; simp) (i := 0)
  have hM' : ∀ X, hget (G' ++ X) R = .map (onceMap (p :: (w.take i).map (fun x => x.1.dst))) := fun X => by rw [hget_old (hget_alive' hM)]; exact hM
  obtain ⟨G3, e3, h3, m3⟩ := mut_set (hget_alive' hM) (.map (onceMap (p :: (w.take (i + 1)).map (fun x => x.1.dst))))
  have h3' : ∀ X, hget (G3 ++ X) R = .map (onceMap (p :: (w.take (i + 1)).map (fun x => x.1.dst))) := fun X => by rw [hget_old (hget_alive' h3)]; exact h3
  have c3 : ∀ X : Heap, hget (G3 ++ X) G'.length = X.getD 0 .dead := (len_rules m3.len).2.2.1
  simp only [n9, r9, g5, g13, g19, g20, hlt, ix, ld0, hw1, w1, hBX, netV_len, netV_0, netV_1, encL_len, encL_0, encL_1, encL_2, encL_3, encL_4, encL_5, encL_6, encL_7, take_all, hl, setAll_full, hfd, hM', hk0, hnew, e3, h3', c3, hk1, show H.length ≤ R by omega, SB, Nat.reduceLT, callee, aOp, ne_eq, Nat.reduceEqDiff, aBin, aUn, if_true, if_false, reduceCtorEq, frame0, place, notTuple, Nat.reduceAdd, Nat.reduceLeDiff, resVal, dite_true, dite_false, Int.reduceEq, Int.reduceLT, Int.reduceLE]
  exact hN (i + 1) _ _ ⟨by omega, by rw [← g4]; exact (by simp only [FB, Nat.reduceEqDiff]), by rw [← g15]; exact (by simp only [FB, Nat.reduceEqDiff]), by rw [← g16]; exact (by simp only [FB, Nat.reduceEqDiff]), by rw [← g17]; exact (by simp only [FB, Nat.reduceEqDiff]), (by simp only [g5, FB, Nat.reduceEqDiff]), (by simp only [g13, FB, Nat.reduceEqDiff]), (by simp only [g19, FB, Nat.reduceEqDiff]), (by simp only [FB, Nat.reduceEqDiff]), (hC.mut m3 (.inl (by simp))).app, h3' _⟩ (by omega)
end Go.Proofs.Ytcmhnincbkbncaa.Fn
namespace Go.Proofs.Ytcmhnincbkbncaa.Fn
open Go.AM Go.AM.Sym Go.Net
set_option maxRecDepth 100000
set_option linter.unusedVariables false
set_option linter.unusedSimpArgs false
set_option maxHeartbeats 4000000

def rest9 : ACode := tlC (tlC (tlC (tlC (tlC c9))))
theorem c9_cut : c9 = .seq (hdC c9) (.seq (hdC (tlC c9)) (.seq (hdC (tlC (tlC c9))) (.seq (hdC (tlC (tlC (tlC c9)))) (.seq (hdC (tlC (tlC (tlC (tlC c9))))) rest9)))) := rfl

/-- What is true of any way beside the best one. -/
theorem least_law {L : List Leg} (hF : ∀ l ∈ L, Fine l) {p t q v : Int} {w : List (Leg × Int)} {s : List (Int × Int × Int)} (hid : L.Pairwise (fun a b => a.id ≠ b.id)) (hv : IsArr L p t q v) (hv0 : 0 ≤ v) (hw : BestW L p t q v w) (hs : rightN L p t s q = true) :
    v ≤ lastA t s ∧ (v < lastA t s ∨ w.length < s.length ∨ (s.length = w.length ∧ lessS s (w.map stopOf) = false)) := by
  obtain ⟨w', u, rfl, hw'⟩ := (rightN_way hF hid).1 hs
  rw [lastA_way hw']
  have hvl := (hv.ge hF hv0).2
  have hvu : v ≤ u := by
    rcases Int.lt_or_le (t + 86400) u with h | h
    · omega
    · exact hv.le ⟨⟨_, hw'.way⟩, h⟩
  refine ⟨hvu, ?_⟩
  rcases Int.lt_or_le v u with h | h
  · exact .inl h
  · obtain rfl : u = v := by omega
    have hf := hw.few _ _ hw'.way (Int.le_refl _)
    rw [List.length_map]
    rcases Nat.lt_or_ge w.length w'.length with h2 | h2
    · exact .inr (.inl h2)
    · have hl : w'.length = w.length := by omega
      refine .inr (.inr ⟨hl, ?_⟩)
      have h3 := hw.least _ _ hw' (Int.le_refl _) hl
      cases h4 : lessS (w'.map stopOf) (w.map stopOf) with
      | false => rfl
      | true =>
        rw [lessS_lex (by simpa using hl), ids_stops, ids_stops] at h4
        exact absurd h4 h3

def restR : ACode := tlC (tlC (tlC (tlC rest9)))
theorem rest9_cut : rest9 = .seq (hdC rest9) (.seq (hdC (tlC rest9)) (.seq (hdC (tlC (tlC rest9))) (.seq (hdC (tlC (tlC (tlC rest9)))) restR))) := rfl
def restC : ACode := tlC (tlC (tlC (tlC restR)))
theorem restR_cut : restR = .seq (hdC restR) (.seq (hdC (tlC restR)) (.seq (hdC (tlC (tlC restR))) (.seq (hdC (tlC (tlC (tlC restR)))) restC))) := rfl

theorem least_C [OB] {pp pl ps pw : Option Addr} {P : List Int} {L : List Leg} {cp cl cs cw : Nat} {p q t v : Int} {s : List (Int × Int × Int)} {w : List (Leg × Int)} {H G : Heap} {fr : Nat → Value}
    (hn : NetIn H pp pl P L) (hf : fitsP P L p q t) (hs : Sl G enc3 3 ps s) (hsl : s.length ≤ 20) (hE : Chg [] H G) (hB : hget G H.length = .cells false (netV pp P.length cp pl L.length cl)) (sw : Sl G enc3 3 pw (w.map stopOf)) (hwl : w.length < 2 ^ 30)
    (hva : IsArr L p t q v) (hv0 : 0 ≤ v) (hw : BestW L p t q v w)
    (f1 : fr 1 = .int .i64 p) (f2 : fr 2 = .int .i64 q) (f3 : fr 3 = .int .i64 t) (f4 : fr 4 = .slice ps s.length cs) (f5 : fr 5 = .pointer (some ⟨H.length, 0, none⟩)) (f13 : fr 13 = .slice pw w.length cw) (f14 : fr 14 = .int .i64 0) (f15 : fr 15 = .int .i64 v) (f16 : fr 16 = .int .i64 (lastA t s)) (f17 : fr 17 = .bool (rightN L p t s q)) (f18 : fr 18 = .int .i64 v) :
    Ret E a9 H.length [.code restC] fr (G ++ []) fun v' _ => v' = .bool true := by
  have he := fits_err hf
  obtain ⟨_, hv, hp, hq, ht0, ht1⟩ := id hf
  obtain ⟨v1, v2, v3, v4⟩ := validN_0 hv
  have hno := valid_net hv
  have hid := legs_ids v4
  have hl := hE.len
  have hBX := fun X => (Ext.refl.app (X := X)).cells hB
  have hnG := hn.ext hE.ext
  have hrw := fun X (mp : Bool) (lim : Nat) (Q : Value → Heap → Prop) => Right_ok (mp := mp) (lim := lim) (cp := cp) (cl := cl) (cs := cw) (Q := Q) (p := p) (q := q) (t := t) (hnG.app X) (sw.app X) (by rw [List.length_map]; omega) (stops_range hno.fine hw.way)
  rw [he, List.length_map, (rightN_way hno.fine hid).2 ⟨_, _, rfl, hw.way⟩] at hrw
  simp only [decide_true, Bool.and_self] at hrw
  obtain ⟨g1, g2⟩ := hva.ge hno.fine hv0
  have hvm := arr_le hva ht1 ht0
  unfold maxTime at hvm ht1
  have wv : IntKind.i64.wrap (v - t) = v - t := wrap_id (by omega) (by omega)
  have c1 : ¬ 86400 < v - t := by omega
  simp only [restC, restR, rest9, c9, hdC, tlC]
  simp only [n9, r9, f1, f2, f3, f4, f5, f13, f14, f15, f16, f17, f18, hBX, netV_len, netV_0, netV_1, take_all, hrw, wv, eq_false c1, hl, SB, Nat.reduceLT, callee, aOp, ne_eq, Nat.reduceEqDiff, aBin, aUn, if_true, if_false, reduceCtorEq, frame0, place, notTuple, Nat.reduceAdd, Nat.reduceLeDiff, resVal, dite_true, dite_false, Int.reduceEq, Int.reduceLT, Int.reduceLE]
  have hfn : findKey (.int .i64 p) [] 0 = some none := rfl
  refine seen_loop (R := G.length) (cp := cp) (cl := cl) (cw := cw) hn hid (hE.app) ((Ext.refl.app).cells hB) (sw.app _) hwl hw.way (hw.way.nodup hno.fine hw.few) hget_new0 hl (by simp only [f5, FB, Nat.reduceEqDiff]) (by simp only [f13, FB, Nat.reduceEqDiff]) (by simp only [FB, Nat.reduceEqDiff]) (by simp only [FB, Nat.reduceEqDiff]) fun fr' G' hX hcell j4 j13 j15 j16 j17 => ?_
  replace j4 : fr' 4 = .slice ps s.length cs := j4.trans (by simp only [f4, FB, Nat.reduceEqDiff])
  replace j13 : fr' 13 = .slice pw w.length cw := j13.trans (by simp only [f13, FB, Nat.reduceEqDiff])
  replace j15 : fr' 15 = .int .i64 v := j15.trans (by simp only [f15, FB, Nat.reduceEqDiff])
  replace j16 : fr' 16 = .int .i64 (lastA t s) := j16.trans (by simp only [f16, FB, Nat.reduceEqDiff])
  replace j17 : fr' 17 = .bool (rightN L p t s q) := j17.trans (by simp only [f17, FB, Nat.reduceEqDiff])
  have sw2 : Sl G' enc3 3 pw (w.map stopOf) := (sw.app _).sim hcell
  have hs2 : Sl G' enc3 3 ps s := (hs.app _).sim hcell
  cases hr : rightN L p t s q with
  | false =>
    rw [hr] at j17
    simp only [n9, r9, j4, j13, j15, j16, j17, SB, Nat.reduceLT, callee, aOp, ne_eq, Nat.reduceEqDiff, aBin, aUn, if_true, if_false, reduceCtorEq, frame0, place, notTuple, Nat.reduceAdd, Nat.reduceLeDiff, resVal, dite_true, dite_false, Int.reduceEq, Int.reduceLT, Int.reduceLE]
  | true =>
    rw [hr] at j17
    obtain ⟨k1, k2⟩ := least_law hno.fine hid hva hv0 hw hr
    have hls := fun X (mp : Bool) (lim : Nat) (Q : Value → Heap → Prop) => less_ok (mp := mp) (lim := lim) (Q := Q) (ca := cs) (cb := cw) (hs2.app X) (sw2.app X) (by omega)
    rw [List.length_map] at hls
    by_cases h1 : v < lastA t s
    · simp only [n9, r9, j4, j13, j15, j16, j17, eq_true k1, eq_true h1, SB, Nat.reduceLT, callee, aOp, ne_eq, Nat.reduceEqDiff, aBin, aUn, if_true, if_false, reduceCtorEq, frame0, place, notTuple, Nat.reduceAdd, Nat.reduceLeDiff, resVal, dite_true, dite_false, Int.reduceEq, Int.reduceLT, Int.reduceLE]
    by_cases h2 : (w.length : Int) < (s.length : Int)
    · simp only [n9, r9, j4, j13, j15, j16, j17, eq_true k1, eq_false h1, eq_true h2, SB, Nat.reduceLT, callee, aOp, ne_eq, Nat.reduceEqDiff, aBin, aUn, if_true, if_false, reduceCtorEq, frame0, place, notTuple, Nat.reduceAdd, Nat.reduceLeDiff, resVal, dite_true, dite_false, Int.reduceEq, Int.reduceLT, Int.reduceLE]
    obtain ⟨h3, h4⟩ : s.length = w.length ∧ lessS s (w.map stopOf) = false := by
      rcases k2 with k | k | k
      · exact absurd k h1
      · omega
      · exact k
    have h3' : (s.length : Int) = (w.length : Int) := by omega
    rw [h4] at hls
    simp only [n9, r9, j4, j13, j15, j16, j17, eq_true k1, eq_false h1, eq_false h2, eq_true h3', hls, SB, Nat.reduceLT, callee, aOp, ne_eq, Nat.reduceEqDiff, aBin, aUn, if_true, if_false, reduceCtorEq, frame0, place, notTuple, Nat.reduceAdd, Nat.reduceLeDiff, resVal, dite_true, dite_false, Int.reduceEq, Int.reduceLT, Int.reduceLE]

theorem least_R [OB] {pp pl ps pw : Option Addr} {P : List Int} {L : List Leg} {cp cl cs cw : Nat} {p q t v e : Int} {s : List (Int × Int × Int)} {w : List (Leg × Int)} {H G : Heap} {fr : Nat → Value}
    (hn : NetIn H pp pl P L) (hf : fitsP P L p q t) (hs : Sl G enc3 3 ps s) (hsl : s.length ≤ 20) (hsr : ∀ x ∈ s, -2 ^ 63 ≤ x.2.1 ∧ x.2.1 < 2 ^ 63) (hE : Chg [] H G) (hB : hget G H.length = .cells false (netV pp P.length cp pl L.length cl)) (sw : Sl G enc3 3 pw (w.map stopOf)) (hwl : w.length < 2 ^ 30)
    (hva : IsArr L p t q v) (hwe : (e = 6 ∧ v = -1 ∧ w = []) ∨ (e = 0 ∧ 0 ≤ v ∧ BestW L p t q v w))
    (f1 : fr 1 = .int .i64 p) (f2 : fr 2 = .int .i64 q) (f3 : fr 3 = .int .i64 t) (f4 : fr 4 = .slice ps s.length cs) (f5 : fr 5 = .pointer (some ⟨H.length, 0, none⟩)) (f13 : fr 13 = .slice pw w.length cw) (f14 : fr 14 = .int .i64 e) (f15 : fr 15 = .int .i64 v) (f16 : fr 16 = .int .i64 (lastA t s)) :
    Ret E a9 H.length [.code restR] fr (G ++ []) fun v' _ => v' = .bool true := by
  have he := fits_err hf
  obtain ⟨_, hv, hp, hq, ht0, ht1⟩ := id hf
  obtain ⟨v1, v2, v3, v4⟩ := validN_0 hv
  have hno := valid_net hv
  have hid := legs_ids v4
  have hBX := fun X => (Ext.refl.app (X := X)).cells hB
  have hnG := hn.ext hE.ext
  have hrt := fun X (mp : Bool) (lim : Nat) (Q : Value → Heap → Prop) => Right_ok (mp := mp) (lim := lim) (cp := cp) (cl := cl) (cs := cs) (Q := Q) (p := p) (q := q) (t := t) (hnG.app X) (hs.app X) (by omega) hsr
  rw [he] at hrt
  simp only [decide_true, Bool.true_and] at hrt
  rw [restR_cut]
  simp only [restR, rest9, c9, hdC, tlC]
  rcases hwe with ⟨rfl, rfl, rfl⟩ | ⟨rfl, hv0, hw⟩
  · cases hr : rightN L p t s q with
    | false =>
      rw [hr] at hrt
      simp only [n9, r9, f1, f2, f3, f4, f5, f13, f14, f15, f16, hBX, netV_len, netV_0, netV_1, take_all, hrt, List.length_nil, SB, Nat.reduceLT, callee, aOp, ne_eq, Nat.reduceEqDiff, aBin, aUn, if_true, if_false, reduceCtorEq, frame0, place, notTuple, Nat.reduceAdd, Nat.reduceLeDiff, resVal, dite_true, dite_false, Int.reduceEq, Int.reduceLT, Int.reduceLE]
    | true =>
      rw [hr] at hrt
      obtain ⟨w', u, rfl, hw'⟩ := (rightN_way hno.fine hid).1 hr
      rw [lastA_way hw'] at f16
      have hu : ¬ u ≤ t + 86400 := fun hu => by
        have := hva.nonneg hno.fine ht0 hw'.way hu
        omega
      have hum : u ≤ maxTime := by
        cases w' with
        | nil => rw [← hw'.2]; exact ht1
        | cons x w' =>
          have hway := hw'.way
          cases hway with
          | snoc _ hl _ hd _ => exact (dep_range (hno.fine _ hl) hd).2.1
      unfold maxTime at hum
      have wu : IntKind.i64.wrap (u - t) = u - t := wrap_id (by omega) (by omega)
      have c1 : 86400 < u - t := by omega
      simp only [n9, r9, f1, f2, f3, f4, f5, f13, f14, f15, f16, hBX, netV_len, netV_0, netV_1, take_all, hrt, List.length_nil, wu, eq_true c1, SB, Nat.reduceLT, callee, aOp, ne_eq, Nat.reduceEqDiff, aBin, aUn, if_true, if_false, reduceCtorEq, frame0, place, notTuple, Nat.reduceAdd, Nat.reduceLeDiff, resVal, dite_true, dite_false, Int.reduceEq, Int.reduceLT, Int.reduceLE]
  · have hlw := lastA_way hw.way
    by_cases hw0 : w.length = 0
    · obtain rfl := List.length_eq_zero_iff.1 hw0
      have etv : t = v := hlw
      simp only [n9, r9, f1, f2, f3, f4, f5, f13, f14, f15, f16, hBX, netV_len, netV_0, netV_1, take_all, hrt, List.length_nil, SB, Nat.reduceLT, callee, aOp, ne_eq, Nat.reduceEqDiff, aBin, aUn, if_true, if_false, reduceCtorEq, frame0, place, notTuple, Nat.reduceAdd, Nat.reduceLeDiff, resVal, dite_true, dite_false, Int.reduceEq, Int.reduceLT, Int.reduceLE]
      exact least_C (cs := cs) (cw := cw) hn hf hs hsl hE hB sw hwl hva hv0 hw (by simp only [f1, FB, Nat.reduceEqDiff]) (by simp only [f2, FB, Nat.reduceEqDiff]) (by simp only [f3, FB, Nat.reduceEqDiff]) (by simp only [f4, FB, Nat.reduceEqDiff]) (by simp only [f5, FB, Nat.reduceEqDiff]) (by simp only [f13, List.length_nil, FB, Nat.reduceEqDiff]) (by simp only [f14, FB, Nat.reduceEqDiff]) (by simp only [f15, FB, Nat.reduceEqDiff]) (by simp only [f16, FB, Nat.reduceEqDiff]) (by simp only [FB, Nat.reduceEqDiff]) (by simp only [etv, FB, Nat.reduceEqDiff])
    · obtain ⟨m, hm⟩ : ∃ m, w.length = m + 1 := ⟨w.length - 1, by omega⟩
      have hlm : m < (w.map stopOf).length := by rw [List.length_map]; omega
      have hpos : (0 : Int) < (w.length : Int) := by omega
      have wm : IntKind.i64.wrap ((w.length : Int) - 1) = (m : Int) := by rw [wrap_id (by omega) (by omega)]; omega
      have ld2 := fun X => (sw.app X).loadCell enc3_len hlm (j := 2) (by decide)
      have hg : (gt (w.map stopOf) m).2.2 = v := by rw [← lastA_gt (t := t) (by rw [List.length_map]; exact hm)]; exact hlw
      simp only [enc3, List.getElem?_cons_succ, List.getElem?_cons_zero, hg] at ld2
      have ix := fun c (kk : IntKind) (H1 : Heap) => sw.idx (c := c) (k := kk) (H1 := H1) hlm
      rw [List.length_map] at ix
      simp only [n9, r9, f1, f2, f3, f4, f5, f13, f14, f15, f16, hBX, netV_len, netV_0, netV_1, take_all, hrt, eq_true hpos, wm, ld2, ix, SB, Nat.reduceLT, callee, aOp, ne_eq, Nat.reduceEqDiff, aBin, aUn, if_true, if_false, reduceCtorEq, frame0, place, notTuple, Nat.reduceAdd, Nat.reduceLeDiff, resVal, dite_true, dite_false, Int.reduceEq, Int.reduceLT, Int.reduceLE]
      exact least_C (cs := cs) (cw := cw) hn hf hs hsl hE hB sw hwl hva hv0 hw (by simp only [f1, FB, Nat.reduceEqDiff]) (by simp only [f2, FB, Nat.reduceEqDiff]) (by simp only [f3, FB, Nat.reduceEqDiff]) (by simp only [f4, FB, Nat.reduceEqDiff]) (by simp only [f5, FB, Nat.reduceEqDiff]) (by simp only [f13, FB, Nat.reduceEqDiff]) (by simp only [f14, FB, Nat.reduceEqDiff]) (by simp only [f15, FB, Nat.reduceEqDiff]) (by simp only [f16, FB, Nat.reduceEqDiff]) (by simp only [FB, Nat.reduceEqDiff]) (by simp only [FB, Nat.reduceEqDiff])

theorem least_main [OB] {pp pl ps pw x1 : Option Addr} {P T : List Int} {L : List Leg} {cp cl cs cw : Nat} {p q t v e : Int} {s : List (Int × Int × Int)} {w : List (Leg × Int)} {H G : Heap} {fr : Nat → Value}
    (hn : NetIn H pp pl P L) (hf : fitsP P L p q t) (hs : Sl H enc3 3 ps s) (hsl : s.length ≤ 20) (hsr : ∀ x ∈ s, -2 ^ 63 ≤ x.2.1 ∧ x.2.1 < 2 ^ 63) (hE : Chg [] H G) (hB : hget G H.length = .cells false (netV pp P.length cp pl L.length cl)) (hT : arrL P L p t T) (sT : Sl G encI 1 x1 T) (sw : Sl G enc3 3 pw (w.map stopOf)) (hwl : w.length < 2 ^ 30)
    (hva : IsArr L p t q v) (hwe : (e = 6 ∧ v = -1 ∧ w = []) ∨ (e = 0 ∧ 0 ≤ v ∧ BestW L p t q v w))
    (f1 : fr 1 = .int .i64 p) (f2 : fr 2 = .int .i64 q) (f3 : fr 3 = .int .i64 t) (f4 : fr 4 = .slice ps s.length cs) (f5 : fr 5 = .pointer (some ⟨H.length, 0, none⟩)) (f11 : fr 11 = .slice x1 P.length (loose 1)) (f12 : fr 12 = .int .i64 0) (f13 : fr 13 = .slice pw w.length cw) (f14 : fr 14 = .int .i64 e) :
    Ret E a9 H.length [.code rest9] fr (G ++ []) fun v' _ => v' = .bool true := by
  have he := fits_err hf
  obtain ⟨_, hv, hp, hq, ht0, ht1⟩ := id hf
  obtain ⟨v1, v2, v3, v4⟩ := validN_0 hv
  have hno := valid_net hv
  have hid := legs_ids v4
  have hl := hE.len
  have hBX := fun X => (Ext.refl.app (X := X)).cells hB
  have hnG := hn.ext hE.ext
  have hplc := fun X (a : Int) (mp : Bool) (lim : Nat) (Q : Value → Heap → Prop) => place_ok (mp := mp) (lim := lim) (cp := cp) (cl := cl) (Q := Q) (p := a) (hnG.app X)
  have ep : placeN P p = (posN P p : Int) := if_pos hp
  have eq' : placeN P q = (posN P q : Int) := if_pos hq
  have pp' : posN P p < P.length := List.idxOf_lt_length_of_mem hp
  have pq' : posN P q < P.length := List.idxOf_lt_length_of_mem hq
  have lp := ld_ints (i := posN P p) sT (by rw [hT.1]; omega)
  have xp := ix_ints (i := posN P p) sT pp' hT.1
  have lq := ld_ints (i := posN P q) sT (by rw [hT.1]; omega)
  have xq := ix_ints (i := posN P q) sT pq' hT.1
  have hp1 := hT.2 p hp
  have hq1 := hT.2 q hq
  rw [← gt_getD (by rw [hT.1]; omega)] at hp1 hq1
  rw [hp1.start hno.fine] at lp
  rw [hq1.uniq hva] at lq
  have hsG := hE.ext.sl hs
  rw [rest9_cut]
  simp only [rest9, c9, hdC, tlC]
  by_cases hs0 : s.length = 0
  · obtain rfl := List.length_eq_zero_iff.1 hs0
    simp only [n9, r9, f1, f2, f3, f4, f5, f11, f12, f13, f14, hBX, netV_len, netV_0, netV_1, take_all, hplc, ep, eq', lp, xp, lq, xq, List.length_nil, SB, Nat.reduceLT, callee, aOp, ne_eq, Nat.reduceEqDiff, aBin, aUn, if_true, if_false, reduceCtorEq, frame0, place, notTuple, Nat.reduceAdd, Nat.reduceLeDiff, resVal, dite_true, dite_false, Int.reduceEq, Int.reduceLT, Int.reduceLE]
    exact least_R (cs := cs) (cw := cw) (s := []) hn hf hsG hsl hsr hE hB sw hwl hva hwe (by simp only [f1, FB, Nat.reduceEqDiff]) (by simp only [f2, FB, Nat.reduceEqDiff]) (by simp only [f3, FB, Nat.reduceEqDiff]) (by simp only [f4, List.length_nil, FB, Nat.reduceEqDiff]) (by simp only [f5, FB, Nat.reduceEqDiff]) (by simp only [f13, FB, Nat.reduceEqDiff]) (by simp only [f14, FB, Nat.reduceEqDiff]) (by simp only [FB, Nat.reduceEqDiff]) (by simp only [FB, Nat.reduceEqDiff]; rfl)
  · obtain ⟨m, hm⟩ : ∃ m, s.length = m + 1 := ⟨s.length - 1, by omega⟩
    have hpos : (0 : Int) < (s.length : Int) := by omega
    have hlm : m < s.length := by omega
    have wm : IntKind.i64.wrap ((s.length : Int) - 1) = (m : Int) := by rw [wrap_id (by omega) (by omega)]; omega
    have ld2 := fun X => (hsG.app X).loadCell enc3_len hlm (j := 2) (by decide)
    simp only [enc3, List.getElem?_cons_succ, List.getElem?_cons_zero] at ld2
    rw [← lastA_gt (t := t) hm] at ld2
    have ix := fun c (kk : IntKind) (H1 : Heap) => hsG.idx (c := c) (k := kk) (H1 := H1) hlm
    simp only [n9, r9, f1, f2, f3, f4, f5, f11, f12, f13, f14, hBX, netV_len, netV_0, netV_1, take_all, hplc, ep, eq', lp, xp, lq, xq, eq_true hpos, wm, ld2, ix, SB, Nat.reduceLT, callee, aOp, ne_eq, Nat.reduceEqDiff, aBin, aUn, if_true, if_false, reduceCtorEq, frame0, place, notTuple, Nat.reduceAdd, Nat.reduceLeDiff, resVal, dite_true, dite_false, Int.reduceEq, Int.reduceLT, Int.reduceLE]
    exact least_R (cs := cs) (cw := cw) hn hf hsG hsl hsr hE hB sw hwl hva hwe (by simp only [f1, FB, Nat.reduceEqDiff]) (by simp only [f2, FB, Nat.reduceEqDiff]) (by simp only [f3, FB, Nat.reduceEqDiff]) (by simp only [f4, FB, Nat.reduceEqDiff]) (by simp only [f5, FB, Nat.reduceEqDiff]) (by simp only [f13, FB, Nat.reduceEqDiff]) (by simp only [f14, FB, Nat.reduceEqDiff]) (by simp only [FB, Nat.reduceEqDiff]) (by simp only [FB, Nat.reduceEqDiff])

theorem RouteLeast_ok [OB] {mp : Bool} {lim : Nat} {pp pl ps : Option Addr} {P : List Int} {L : List Leg} {cp cl cs : Nat} {p q t : Int} {s : List (Int × Int × Int)} {H : Heap} {Q : Value → Heap → Prop} (hn : NetIn H pp pl P L) (hs : Sl H enc3 3 ps s) (hsl : s.length < 2 ^ 63) (hsr : ∀ x ∈ s, -2 ^ 63 ≤ x.2.1 ∧ x.2.1 < 2 ^ 63) (hA : OB.on 21 = true) :
    CallR E mp lim 9 [.agg (netV pp P.length cp pl L.length cl).toArray, .int .i64 p, .int .i64 q, .int .i64 t, .slice ps s.length cs] H Q = Q (.bool true) H := by
  refine pc (by decide) e9 rfl rfl ?_
  rw [b9, c9_cut]
  simp only [c9, hdC, tlC]
  have hft := fun X (mp : Bool) (lim : Nat) (Q : Value → Heap → Prop) => fits_ok (mp := mp) (lim := lim) (cp := cp) (cl := cl) (Q := Q) (a := p) (b := q) (t := t) (hn.app X)
  by_cases hf : fitsP P L p q t
  case neg => simp only [n9, r9, netV_len, netV_0, netV_1, awake33_on hA, hft, take_all, decide_eq_false hf, SB, Nat.reduceLT, callee, aOp, ne_eq, Nat.reduceEqDiff, aBin, aUn, if_true, if_false, reduceCtorEq, frame0, place, notTuple, Nat.reduceAdd, Nat.reduceLeDiff, resVal, dite_true, dite_false, Int.reduceEq, Int.reduceLT, Int.reduceLE]
  by_cases h20 : (20 : Int) < (s.length : Int)
  · simp only [n9, r9, netV_len, netV_0, netV_1, awake33_on hA, hft, take_all, decide_eq_true hf, eq_true h20, SB, Nat.reduceLT, callee, aOp, ne_eq, Nat.reduceEqDiff, aBin, aUn, if_true, if_false, reduceCtorEq, frame0, place, notTuple, Nat.reduceAdd, Nat.reduceLeDiff, resVal, dite_true, dite_false, Int.reduceEq, Int.reduceLT, Int.reduceLE]
  have he := fits_err hf
  obtain ⟨_, hv, hp, hq, ht0, ht1⟩ := id hf
  have hep : errA P L p p t = 0 := by unfold errA; rw [if_neg (by rw [hv]; decide), if_pos ⟨hp, hp, ht0, ht1⟩]
  simp only [n9, r9, netV_len, netV_0, netV_1, awake33_on hA, hft, take_all, decide_eq_true hf, eq_false h20, SB, Nat.reduceLT, callee, aOp, ne_eq, Nat.reduceEqDiff, aBin, aUn, if_true, if_false, reduceCtorEq, frame0, place, notTuple, Nat.reduceAdd, Nat.reduceLeDiff, resVal, dite_true, dite_false, Int.reduceEq, Int.reduceLT, Int.reduceLE]
  refine Arrive_ok (hn.app _) (by simp) (fun _ h => absurd hep h) fun H1 q1 T _ hC1 hT hO1 hl1 => ?_
  have hE1 : Chg [] H H1 := hC1.pre
  have hB1 : hget H1 H.length = .cells false (netV pp P.length cp pl L.length cl) := hC1.cells hget_new0 (by simp)
  have hB1X := fun X => (Ext.refl.app (X := X)).cells hB1
  refine Ret_pad ?_
  simp only [n9, r9, hB1X, netV_len, netV_0, netV_1, take_all, SB, Nat.reduceLT, callee, aOp, ne_eq, Nat.reduceEqDiff, aBin, aUn, if_true, if_false, reduceCtorEq, frame0, place, notTuple, Nat.reduceAdd, Nat.reduceLeDiff, resVal, dite_true, dite_false, Int.reduceEq, Int.reduceLT, Int.reduceLE]
  rw [List.append_nil]
  refine Way_ok (hn.ext hE1.ext) hE1.len (fun _ h => absurd he h) (fun H2 _ hva c2 => ?_) (fun H2 v w pw cw _ c2 hv0 hva hw hwl o2 => ?_)
  · refine Ret_pad ?_
    simp only [n9, r9, SB, Nat.reduceLT, callee, aOp, ne_eq, Nat.reduceEqDiff, aBin, aUn, if_true, if_false, reduceCtorEq, frame0, place, notTuple, Nat.reduceAdd, Nat.reduceLeDiff, resVal, dite_true, dite_false, Int.reduceEq, Int.reduceLT, Int.reduceLE]
    exact least_main (cs := cs) (cw := 0) (w := []) (pw := none) (e := 6) (v := -1) hn hf hs (by omega) hsr (hE1.trans c2) (c2.cells hB1 (by simp)) hT (c2.ext.sl (hO1.sl encI_len)) (show Sl _ enc3 3 none [] from rfl) (by decide) hva (.inl ⟨rfl, rfl, rfl⟩) (by simp only [FB, Nat.reduceEqDiff]) (by simp only [FB, Nat.reduceEqDiff]) (by simp only [FB, Nat.reduceEqDiff]) (by simp only [FB, Nat.reduceEqDiff]) (by simp only [FB, Nat.reduceEqDiff]) (by simp only [FB, Nat.reduceEqDiff]) (by simp only [FB, Nat.reduceEqDiff]) (by simp only [List.length_nil, FB, Nat.reduceEqDiff]) (by simp only [FB, Nat.reduceEqDiff])
  · refine Ret_pad ?_
    simp only [n9, r9, SB, Nat.reduceLT, callee, aOp, ne_eq, Nat.reduceEqDiff, aBin, aUn, if_true, if_false, reduceCtorEq, frame0, place, notTuple, Nat.reduceAdd, Nat.reduceLeDiff, resVal, dite_true, dite_false, Int.reduceEq, Int.reduceLT, Int.reduceLE]
    exact least_main (cs := cs) (cw := cw) (w := w) (e := 0) (v := v) hn hf hs (by omega) hsr (hE1.trans c2) (c2.cells hB1 (by simp)) hT (c2.ext.sl (hO1.sl encI_len)) (o2.sl enc3_len) hwl hva (.inr ⟨rfl, hv0, hw⟩) (by simp only [FB, Nat.reduceEqDiff]) (by simp only [FB, Nat.reduceEqDiff]) (by simp only [FB, Nat.reduceEqDiff]) (by simp only [FB, Nat.reduceEqDiff]) (by simp only [FB, Nat.reduceEqDiff]) (by simp only [FB, Nat.reduceEqDiff]) (by simp only [FB, Nat.reduceEqDiff]) (by simp only [FB, Nat.reduceEqDiff]) (by simp only [FB, Nat.reduceEqDiff])
end Go.Proofs.Ytcmhnincbkbncaa.Fn
