/-
  Joined texts, 8 of 9. A part of the claim that the last text states.
-/
import Derived.Test.YtcmhnincbkbncaaPK7
namespace Go.Proofs.Ytcmhnincbkbncaa.Fn
open Go.AM Go.AM.Sym Go.Net
set_option maxRecDepth 100000
set_option linter.unusedVariables false
set_option linter.unusedSimpArgs false
set_option maxHeartbeats 4000000

theorem sliceV_nil {e : Nat} : sliceV e (.slice none 0 0) none (some (.int .i64 0)) none = some (.slice none 0 0) := by
  unfold sliceV aSliceS
  have h : ¬ 0 = loose e := by unfold loose; omega
  simp only [if_neg h, bounds_V, Option.map_some, Option.map_none, unV]
  rw [bv_010 (by decide) (by decide)]
  simp
theorem sliceV_none {e b n : Nat} : sliceV e (.slice (some ⟨b, 0, none⟩) n (loose e)) none (some (.int .i64 0)) none = some (.slice (some ⟨b, 0, none⟩) 0 (loose e)) := by
  unfold sliceV aSliceS
  simp only [if_true, bounds_V, Option.map_some, Option.map_none, unV]
  rw [bv_010 (by decide) (by omega)]
  simp [addr_add]
theorem grow_ok [OB] {lim n : Nat} {H : Heap} {Q : Value → Heap → Prop} (hn : n < 2 ^ 30) (hlim : lim ≤ H.length)
    (h0 : n = 0 → ∀ X, Q (.slice none 0 0) (H ++ X)) (h1 : n ≠ 0 → ∀ z, Q (.slice (some ⟨H.length, 0, none⟩) 0 (loose 8)) (H ++ [.cells false z])) :
    CallR E false lim 104 [.slice none 0 0, .int .i64 (n : Int)] H Q := by
  refine runs' (by decide) e104 rfl ?_
  rw [b104, c104]
  have hc : ¬ (n : Int) < 0 := by omega
  have w1 : IntKind.i64.wrap (n : Int) = (n : Int) := wrap_id (by omega) (by omega)
  have w0 : IntKind.i64.wrap 0 = 0 := by decide
  by_cases hz : n = 0
  · subst hz
    simp only [n104, r104, w0, Int.sub_self, show (0 : Nat) < 2 ^ 62 by decide, SB, Nat.reduceLT, callee, aOp, ne_eq, Nat.reduceEqDiff, aBin, aUn, if_true, if_false, reduceCtorEq, frame0, place, notTuple, Nat.reduceAdd, Nat.reduceLeDiff, resVal, dite_true, dite_false, Int.reduceEq, Int.reduceLT, Int.reduceLE]
    exact h0 rfl _
  · have hp : 0 < n := by omega
    simp only [n104, r104, hc, w1, w0, Int.sub_self, Int.sub_zero, hp, show (0 : Nat) < 2 ^ 62 by decide, sliceV_nil, sliceV_none, show 0 < (n : Int) ∧ (n : Int) * 64 ≤ 2 ^ 45 ∧ (n : Int) < 2 ^ 62 by omega, SB, Nat.reduceLT, callee, aOp, ne_eq, Nat.reduceEqDiff, aBin, aUn, if_true, if_false, reduceCtorEq, frame0, place, notTuple, Nat.reduceAdd, Nat.reduceLeDiff, resVal, dite_true, dite_false, Int.reduceEq, Int.reduceLT, Int.reduceLE]
    exact h1 hz _

/-- A slice of one's own that may have been made with room. -/
def OwnZ {α : Type} (lim : Nat) (G : Heap) (enc : α → List Value) (e : Nat) (p : Option Addr) (cap : Nat) (l : List α) : Prop :=
  Own lim G enc e p cap l ∨ (l = [] ∧ cap = loose e ∧ ∃ R z, p = some ⟨R, 0, none⟩ ∧ hget G R = .cells false z ∧ lim ≤ R)
section
variable {α : Type} {lim lim' e bytes cap : Nat} {G : Heap} {enc : α → List Value} {p : Option Addr} {l : List α}
theorem OwnZ.sl (h : OwnZ lim G enc e p cap l) (he : ∀ x, (enc x).length = e) : Sl G enc e p l := by
  rcases h with h | ⟨rfl, _, R, z, rfl, h, _⟩
  · exact h.sl he
  · exact ⟨rfl, fun hh => absurd rfl hh⟩
theorem OwnZ.app (h : OwnZ lim G enc e p cap l) (X : Heap) : OwnZ lim (G ++ X) enc e p cap l := by
  rcases h with h | ⟨h1, h2, R, z, h3, h4, h5⟩
  · exact .inl (h.app X)
  · exact .inr ⟨h1, h2, R, z, h3, (Ext.refl.app).cells h4, h5⟩
theorem OwnZ.le (h : OwnZ lim G enc e p cap l) (hl : lim' ≤ lim) : OwnZ lim' G enc e p cap l := by
  rcases h with h | ⟨h1, h2, R, z, h3, h4, h5⟩
  · exact .inl (h.le hl)
  · exact .inr ⟨h1, h2, R, z, h3, h4, by omega⟩
theorem OwnZ.block (h : OwnZ lim G enc e p cap l) {a : Addr} (ha : p = some a) : lim ≤ a.block ∧ a.block < G.length := by
  rcases h with h | ⟨h1, h2, R, z, h3, h4, h5⟩
  · exact h.block ha
  · rw [h3] at ha; cases ha; exact ⟨h5, hget_alive h4⟩
theorem OwnZ.chg {A : List Nat} {H' : Heap} (h : OwnZ lim G enc e p cap l) (hc : Chg A G H') (hp : ∀ a, p = some a → a.block ∉ A) : OwnZ lim H' enc e p cap l := by
  rcases h with h | ⟨h1, h2, R, z, h3, h4, h5⟩
  · exact .inl (h.chg hc hp)
  · exact .inr ⟨h1, h2, R, z, h3, hc.cells h4 (hp _ h3), h5⟩
theorem OwnZ.capOk (h : OwnZ lim G enc e p cap l) : CapOk e cap l.length := by
  rcases h with h | ⟨rfl, rfl, R, z, h3, h4, h5⟩
  · exact h.capOk
  · exact .inl rfl
theorem OwnZ.more (h : OwnZ lim G enc e p cap l) (hll : lim' ≤ lim) (he : ∀ x, (enc x).length = e) (he0 : e ≠ 0) (m : List α) (hb : (l.length + m.length) * bytes ≤ maxBytes) (hn : l.length + m.length < 2 ^ 61) (hlG : lim ≤ G.length)
    (X : Heap) {x : Value} {str : Bool} (h1 : firstCells (G ++ X) e str x = some (m.flatMap enc)) (h2 : lenOf x = some m.length) :
    ∃ G2 p' cap', aAppend lim' none e bytes str (.slice p l.length cap) x (G ++ X) = some (.slice p' (l.length + m.length) cap', G2 ++ []) ∧ OwnZ lim (G2 ++ []) enc e p' cap' (l ++ m) ∧ (∀ A H0, H0.length ≤ lim → Chg A H0 G → Chg A H0 (G2 ++ [])) ∧
      (∀ j, j < G.length → (∀ a, p = some a → j ≠ a.block) → hget (G2 ++ []) j = hget G j) ∧ G.length ≤ G2.length := by
  rcases h with h | ⟨rfl, rfl, R, z, rfl, h4, h5⟩
  · obtain ⟨G2, p', cap', k1, k2, k3⟩ := h.more (lim' := lim') (bytes := bytes) hll he he0 m hb hn hlG X h1 h2
    exact ⟨G2, p', cap', k1, .inl k2, k3⟩
  · have hRl := hget_alive h4
    have hR' : hget (G ++ X) R = .cells false z := by rw [hget_old hRl]; exact h4
    by_cases hm : m = []
    · subst hm
      refine ⟨G ++ X, some ⟨R, 0, none⟩, loose e, ?_, by rw [List.append_nil]; exact .inr ⟨rfl, rfl, R, z, rfl, hR', h5⟩, fun A H0 q1 q2 => by rw [List.append_nil]; exact q2.app, fun j hj _ => by rw [List.append_nil, hget_old hj], by simp⟩
      simp only [List.length_nil, Nat.add_zero] at hb hn h2 ⊢
      simp only [aAppend, h1, h2, Nat.add_zero, if_true, List.append_nil]
      rw [if_neg (by unfold loose; omega)]
    · have hm0 : ¬ m.length = 0 := fun q => hm (List.length_eq_zero_iff.1 q)
      have hold : AM.loadCells (G ++ X) ⟨R, 0, none⟩ (0 * e) = some [] := by
        simp only [loadCells_lit, hR', Nat.zero_mul, Nat.add_zero, Nat.zero_le, if_true, List.take_zero]
      have hmt : Mut G (G.set R .dead) R := ⟨by simp, fun j hj => hget_set_ne hj⟩
      refine ⟨G.set R .dead ++ (X ++ [.cells false (m.flatMap enc)]), some ⟨(G ++ X).length, 0, none⟩, loose e, ?_, .inl ?_, fun A H0 q1 q2 => by rw [List.append_nil]; exact (q2.mut hmt (.inr (by omega))).app, fun j hj hp => by
        rw [List.append_nil, hget_old (by simpa using hj)]; exact hget_set_ne (hp _ rfl), by simp⟩
      · simp only [List.length_nil, Nat.zero_add] at hb hn ⊢
        simp only [aAppend, h1, h2, hold, hR', hm0, if_false, if_true, Nat.zero_add]
        rw [if_neg (by unfold loose; omega)]
        simp [show lim' ≤ R by omega, place, List.set_append_left _ _ hRl, List.append_assoc]
      · rw [List.append_nil, List.nil_append]
        refine Own.new ?_ (by simp; omega)
        rw [← List.append_assoc, show (G ++ X).length = (G.set R .dead ++ X).length by simp]; exact hget_new0
end

theorem concat_tail [OB] {lim B c1 c2 cap : Nat} {o : Bool} {q p1 p2 : Option Addr} {m1 m2 : List Leg} {H G : Heap} {fr : Nat → Value} {K : List AItem} {Z : Value → Heap → Prop} (hB : hget H B = .cells o [.slice p1 m1.length c1, .slice p2 m2.length c2]) (s1 : Sl H encL 8 p1 m1) (s2 : Sl H encL 8 p2 m2) (hn : m1.length + m2.length < 2 ^ 20) (hlim : lim ≤ H.length)
    (hE : Chg [] H G) (hO : OwnZ H.length G encL 8 q cap []) (f6 : fr 6 = .slice q 0 cap) (f25 : fr 25 = .slice (some ⟨B, 0, none⟩) 2 2) (f26 : fr 26 = .int .i64 2) (f27 : fr 27 = .int .i64 0)
    (hR : ∀ fr' G' q' cap', Chg [] H G' → OwnZ H.length G' encL 8 q' cap' (m1 ++ m2) → fr' 6 = .slice q' (m1.length + m2.length) cap' → Ret E a70 lim K fr' (G' ++ []) Z) :
    Ret E a70 lim (.code (.loop l70_1) :: .inBlock 2 :: K) fr G Z := by
  have i0 : ∀ k (H1 : Heap), idxK 1 (.slice (some ⟨B, 0, none⟩) 2 2) (.int k 0) H1 = some (.pointer (some ⟨B, 0, none⟩), H1) := fun k H1 => by simp [idxK, addr_add]
  have i1 : ∀ k (H1 : Heap), idxK 1 (.slice (some ⟨B, 0, none⟩) 2 2) (.int k 1) H1 = some (.pointer (some ⟨B, 1, none⟩), H1) := fun k H1 => by simp [idxK, addr_add]
  have w3 : IntKind.i64.wrap (0 + 1) = 1 := by decide
  have w4 : IntKind.i64.wrap (1 + 1) = 2 := by decide
  have hBX := fun X => (Ext.refl.app (X := X)).cells (hE.cells hB (by simp))
  have hl := hE.len
  obtain ⟨G2, q2, k2, e2, O2, C2, _, l2⟩ := hO.more (lim' := lim) (bytes := 64) hlim encL_len (by decide) m1 (by unfold maxBytes; simp; omega) (by simp; omega) hl [] (x := .slice p1 m1.length c1) (str := false) (first_slice ((hE.ext.sl s1).app _)) rfl
  have E2 := C2 [] H (Nat.le_refl _) hE
  rw [List.append_nil] at E2 O2
  have hBX2 := fun X => (Ext.refl.app (X := X)).cells (E2.cells hB (by simp))
  obtain ⟨G3, q3, k3, e3, O3, C3, _, l3⟩ := O2.more (lim' := lim) (bytes := 64) hlim encL_len (by decide) m2 (by unfold maxBytes; simp; omega) (by simp; omega) (by omega) [] (x := .slice p2 m2.length c2) (str := false) (first_slice ((E2.ext.sl s2).app _)) rfl
  have E3 := C3 [] H (Nat.le_refl _) E2
  rw [List.append_nil] at E3 O3
  simp only [List.length_nil, Nat.zero_add, List.nil_append] at e2 e3 O3
  refine Ret_pad ?_
  rw [Ret_loop, Ret_code l70_1.eq_1]
  simp only [n70, r70, f6, f25, f26, f27, hBX, i0, w3, e2, SB, Nat.reduceLT, callee, aOp, ne_eq, Nat.reduceEqDiff, aBin, aUn, if_true, if_false, reduceCtorEq, frame0, place, notTuple, Nat.reduceAdd, Nat.reduceLeDiff, resVal, dite_true, dite_false, Int.reduceEq, Int.reduceLT, Int.reduceLE]
  rw [Ret_inLoop, Ret_code l70_1.eq_1]
  simp only [n70, r70, f6, f25, f26, f27, hBX2, i1, w4, e3, SB, Nat.reduceLT, callee, aOp, ne_eq, Nat.reduceEqDiff, aBin, aUn, if_true, if_false, reduceCtorEq, frame0, place, notTuple, Nat.reduceAdd, Nat.reduceLeDiff, resVal, dite_true, dite_false, Int.reduceEq, Int.reduceLT, Int.reduceLE]
  rw [Ret_inLoop, Ret_code l70_1.eq_1]
  simp only [n70, r70, f6, f25, f26, f27, SB, Nat.reduceLT, callee, aOp, ne_eq, Nat.reduceEqDiff, aBin, aUn, if_true, if_false, reduceCtorEq, frame0, place, notTuple, Nat.reduceAdd, Nat.reduceLeDiff, resVal, dite_true, dite_false, Int.reduceEq, Int.reduceLT, Int.reduceLE]
  exact hR _ _ _ _ E3 O3 (by simp only [FB, Nat.reduceEqDiff])

theorem concat_ok [OB] {lim B c1 c2 : Nat} {o : Bool} {p1 p2 : Option Addr} {m1 m2 : List Leg} {H : Heap} {Q : Value → Heap → Prop} (hB : hget H B = .cells o [.slice p1 m1.length c1, .slice p2 m2.length c2]) (s1 : Sl H encL 8 p1 m1) (s2 : Sl H encL 8 p2 m2) (hn : m1.length + m2.length < 2 ^ 20) (hlim : lim ≤ H.length)
    (hQ : ∀ H' q cap, Chg [] H H' → OwnZ H.length H' encL 8 q cap (m1 ++ m2) → Q (.slice q (m1.length + m2.length) cap) H') :
    CallR E false lim 70 [.slice (some ⟨B, 0, none⟩) 2 2] H Q := by
  refine runs' (by decide) e70 rfl ?_
  rw [b70, c70]
  have hBX := fun X => (Ext.refl.app (X := X)).cells hB
  have w1 : IntKind.i64.wrap (0 + (m1.length : Int)) = (m1.length : Int) := by rw [Int.zero_add]; exact wrap_id (by omega) (by omega)
  have w2 : IntKind.i64.wrap ((m1.length : Int) + (m2.length : Int)) = ((m1.length + m2.length : Nat) : Int) := by rw [wrap_id (by omega) (by omega)]; omega
  have n1 : ¬ (m1.length : Int) < 0 := by omega
  have n2 : ¬ ((m1.length + m2.length : Nat) : Int) < 0 := by omega
  have i0 : ∀ k (H1 : Heap), idxK 1 (.slice (some ⟨B, 0, none⟩) 2 2) (.int k 0) H1 = some (.pointer (some ⟨B, 0, none⟩), H1) := fun k H1 => by simp [idxK, addr_add]
  have i1 : ∀ k (H1 : Heap), idxK 1 (.slice (some ⟨B, 0, none⟩) 2 2) (.int k 1) H1 = some (.pointer (some ⟨B, 1, none⟩), H1) := fun k H1 => by simp [idxK, addr_add]
  have w3 : IntKind.i64.wrap (0 + 1) = 1 := by decide
  have w4 : IntKind.i64.wrap (1 + 1) = 2 := by decide
  simp only [n70, r70, SB, Nat.reduceLT, callee, aOp, ne_eq, Nat.reduceEqDiff, aBin, aUn, if_true, if_false, reduceCtorEq, frame0, place, notTuple, Nat.reduceAdd, Nat.reduceLeDiff, resVal, dite_true, dite_false, Int.reduceEq, Int.reduceLT, Int.reduceLE]
  rw [Ret_loop, Ret_code l70_2.eq_1]
  simp only [n70, r70, hBX, i0, w1, w3, n1, SB, Nat.reduceLT, callee, aOp, ne_eq, Nat.reduceEqDiff, aBin, aUn, if_true, if_false, reduceCtorEq, frame0, place, notTuple, Nat.reduceAdd, Nat.reduceLeDiff, resVal, dite_true, dite_false, Int.reduceEq, Int.reduceLT, Int.reduceLE]
  rw [Ret_inLoop, Ret_code l70_2.eq_1]
  simp only [n70, r70, hBX, i1, w2, w4, n2, SB, Nat.reduceLT, callee, aOp, ne_eq, Nat.reduceEqDiff, aBin, aUn, if_true, if_false, reduceCtorEq, frame0, place, notTuple, Nat.reduceAdd, Nat.reduceLeDiff, resVal, dite_true, dite_false, Int.reduceEq, Int.reduceLT, Int.reduceLE]
  rw [Ret_inLoop, Ret_code l70_2.eq_1]
  simp only [n70, r70, SB, Nat.reduceLT, callee, aOp, ne_eq, Nat.reduceEqDiff, aBin, aUn, if_true, if_false, reduceCtorEq, frame0, place, notTuple, Nat.reduceAdd, Nat.reduceLeDiff, resVal, dite_true, dite_false, Int.reduceEq, Int.reduceLT, Int.reduceLE]
  rw [List.append_nil]
  refine grow_ok (by omega) hlim (fun h0 X => ?_) (fun h0 z => ?_)
  · refine Ret_pad ?_
    simp only [n70, r70, SB, Nat.reduceLT, callee, aOp, ne_eq, Nat.reduceEqDiff, aBin, aUn, if_true, if_false, reduceCtorEq, frame0, place, notTuple, Nat.reduceAdd, Nat.reduceLeDiff, resVal, dite_true, dite_false, Int.reduceEq, Int.reduceLT, Int.reduceLE]
    refine concat_tail (c1 := c1) (c2 := c2) (o := o) hB s1 s2 hn hlim (Chg.refl.app) (.inl .nil) (by simp only [FB, Nat.reduceEqDiff]) (by simp only [FB, Nat.reduceEqDiff]) (by simp only [FB, Nat.reduceEqDiff]) (by simp only [FB, Nat.reduceEqDiff]) fun fr' G' q' cap' hC hO g6 => ?_
    simp only [n70, r70, g6, SB, Nat.reduceLT, callee, aOp, ne_eq, Nat.reduceEqDiff, aBin, aUn, if_true, if_false, reduceCtorEq, frame0, place, notTuple, Nat.reduceAdd, Nat.reduceLeDiff, resVal, dite_true, dite_false, Int.reduceEq, Int.reduceLT, Int.reduceLE]
    exact hQ _ _ _ hC.app (hO.app _)
  · refine Ret_pad ?_
    simp only [n70, r70, SB, Nat.reduceLT, callee, aOp, ne_eq, Nat.reduceEqDiff, aBin, aUn, if_true, if_false, reduceCtorEq, frame0, place, notTuple, Nat.reduceAdd, Nat.reduceLeDiff, resVal, dite_true, dite_false, Int.reduceEq, Int.reduceLT, Int.reduceLE]
    refine concat_tail (c1 := c1) (c2 := c2) (o := o) hB s1 s2 hn hlim (Chg.refl.app) (.inr ⟨rfl, rfl, _, z, rfl, hget_new0, Nat.le_refl _⟩) (by simp only [FB, Nat.reduceEqDiff]) (by simp only [FB, Nat.reduceEqDiff]) (by simp only [FB, Nat.reduceEqDiff]) (by simp only [FB, Nat.reduceEqDiff]) fun fr' G' q' cap' hC hO g6 => ?_
    simp only [n70, r70, g6, SB, Nat.reduceLT, callee, aOp, ne_eq, Nat.reduceEqDiff, aBin, aUn, if_true, if_false, reduceCtorEq, frame0, place, notTuple, Nat.reduceAdd, Nat.reduceLeDiff, resVal, dite_true, dite_false, Int.reduceEq, Int.reduceLT, Int.reduceLE]
    exact hQ _ _ _ hC.app (hO.app _)

/-- Without: the error, or the network without the leg, in slices of its own. -/
theorem Without_ok [OB] {lim : Nat} {pp pl : Option Addr} {P : List Int} {L : List Leg} {cp cl : Nat} {t : Int} {H : Heap} {Q : Value → Heap → Prop} (hn : NetIn H pp pl P L) (hc : CapOk 8 cl L.length) (hP : P ≠ []) (hlim : lim ≤ H.length) (hv : validN P L = 0) (ht : ∃ l ∈ L, l.id = t)
    (hok : ∀ H' qp ql cql, Chg [] H H' → Own H.length H' encI 1 qp (loose 1) P → OwnZ H.length H' encL 8 ql cql (L.take (L.findIdx fun l => l.id = t) ++ L.drop (L.findIdx (fun l => l.id = t) + 1)) → Q (.tuple #[.agg (netV qp P.length (loose 1) ql (L.length - 1) cql).toArray, .int .i64 0]) H') :
    CallR E false lim 27 [.agg (netV pp P.length cp pl L.length cl).toArray, .int .i64 t] H Q := by
  refine runs' (by decide) e27 rfl ?_
  rw [b27, c27]
  obtain ⟨v1, v2, v3, v4⟩ := validN_0 hv
  have hvd := fun X (mp : Bool) (lim : Nat) (Q : Value → Heap → Prop) => valid_ok (mp := mp) (lim := lim) (cp := cp) (cl := cl) (Q := Q) (hn.app X)
  rw [hv] at hvd
  have hix := fun X (mp : Bool) (lim : Nat) (Q : Value → Heap → Prop) => legindex_ok (mp := mp) (lim := lim) (A := H.length + 1) (o := false) (t := t) (cap := cl) (Q := Q) (H := H ++ .cells false (netV pp P.length cp pl L.length cl) :: .cells false [.int .i64 t] :: X) (by rw [hget_new]; rfl) (hn.sl.app _) (by omega)
  have hat : legAt L t = ((L.findIdx fun l => l.id = t : Nat) : Int) := if_pos ht
  have hil : L.findIdx (fun l => l.id = t) < L.length := by
    rw [List.findIdx_lt_length]
    obtain ⟨l, h1, h2⟩ := ht
    exact ⟨l, h1, by simpa using h2⟩
  rw [hat] at hix
  generalize L.findIdx (fun l => decide (l.id = t)) = i at *
  have hineg : ¬ (i : Int) < 0 := by omega
  have w1 : IntKind.i64.wrap ((i : Int) + 1) = ((i + 1 : Nat) : Int) := wrap_nat (by omega)
  obtain ⟨q1, k1, x1, s1, _, _, _⟩ := slice_cut (vlo := none) (vhi := some (.int .i64 (i : Int))) (lo := 0) (hi := i) hn.sl hc encL_len (fun cap hcap => by rw [bv_010 (by omega) (by omega), Int.toNat_natCast]) (Nat.zero_le _) (by omega) (by omega)
  obtain ⟨q2, k2, x2, s2, _, _, _⟩ := slice_cut (vlo := some (.int .i64 ((i + 1 : Nat) : Int))) (vhi := none) (lo := i + 1) (hi := L.length) hn.sl hc encL_len (fun cap hcap => by rw [bv_100 (by omega) (by omega), Int.toNat_natCast]) (by omega) (Nat.le_refl _) (by omega)
  rw [List.drop_zero] at s1
  rw [List.take_length] at s2
  simp only [Nat.sub_zero] at x1
  simp only [n27, r27, hvd, netV_len, netV_0, netV_1, take_all, hix, hineg, w1, x1, x2, SB, Nat.reduceLT, callee, aOp, ne_eq, Nat.reduceEqDiff, aBin, aUn, if_true, if_false, reduceCtorEq, frame0, place, notTuple, Nat.reduceAdd, Nat.reduceLeDiff, resVal, dite_true, dite_false, Int.reduceEq, Int.reduceLT, Int.reduceLE]
  refine clone_ok (hn.sp.app _) hP (by omega) fun H3 q3 hE3 hO3 => ?_
  obtain ⟨Y, rfl⟩ := hE3
  refine Ret_pad ?_
  simp only [n27, r27, SB, Nat.reduceLT, callee, aOp, ne_eq, Nat.reduceEqDiff, aBin, aUn, if_true, if_false, reduceCtorEq, frame0, place, notTuple, Nat.reduceAdd, Nat.reduceLeDiff, resVal, dite_true, dite_false, Int.reduceEq, Int.reduceLT, Int.reduceLE]
  have e1 : (L.take i).length = i := by rw [List.length_take]; omega
  have e2 : (L.drop (i + 1)).length = L.length - (i + 1) := by rw [List.length_drop]
  generalize hd : (Blk.cells false [.slice q1 i k1, .slice q2 (L.length - (i + 1)) k2]) = d
  generalize hG : H ++ .cells false (netV pp P.length cp pl L.length cl) :: .cells false [.int .i64 t] :: .cells false [.slice none 0 0, .slice none 0 0] :: d :: (Y ++ []) = G
  have hEG : Ext H G := ⟨_, hG.symm⟩
  have hGl : H.length + 4 ≤ G.length := by rw [← hG]; simp
  have hG3 : hget G (H.length + 3) = d := by rw [← hG, hget_new]; rfl
  have hG2 : hget G (H.length + 2) = .cells false [.slice none 0 0, .slice none 0 0] := by rw [← hG, hget_new]; rfl
  have hm : Mut ((H ++ [Blk.cells false (netV pp P.length cp pl L.length cl), Blk.cells false [.int .i64 t], Blk.cells false [.slice none 0 0, .slice none 0 0], Blk.dead]) ++ Y) G (H.length + 3) := by
    have e : G = ((H ++ [Blk.cells false (netV pp P.length cp pl L.length cl), Blk.cells false [.int .i64 t], Blk.cells false [.slice none 0 0, .slice none 0 0], Blk.dead]) ++ Y).set (H.length + 3) d := by
      rw [← hG, List.append_assoc, set_new]; simp
    rw [e]; exact ⟨by simp, fun j hj => hget_set_ne hj⟩
  simp only [List.length_append, List.length_cons, List.length_nil] at hO3
  have hO := hO3.mut hm fun a e => by have := (hO3.block e).1; omega
  have hcc := fun Q => concat_ok (lim := lim) (Q := Q) (B := H.length + 3) (o := false) (p1 := q1) (c1 := k1) (m1 := L.take i) (p2 := q2) (c2 := k2) (m2 := L.drop (i + 1)) (H := G) (by rw [hG3, ← hd, e1, e2]) (hEG.sl s1) (hEG.sl s2) (by omega) (by omega)
  rw [e1, e2] at hcc
  refine hcc _ fun H5 q5 c5 hC5 hO5 => ?_
  have hl5 := hC5.len
  obtain ⟨H6, e6, h6, m6⟩ := mut_set (hget_alive (hC5.cells hG2 (by simp))) (.cells false [.slice q3 P.length (loose 1), .slice q5 (i + (L.length - (i + 1))) c5])
  have hG2X := fun X => (Ext.refl.app (X := X)).cells (hC5.cells hG2 (by simp))
  have h6X := fun X => (Ext.refl.app (X := X)).cells h6
  have ei : i + (L.length - (i + 1)) = L.length - 1 := by omega
  rw [ei] at e6 h6 h6X
  refine Ret_pad ?_
  simp only [n27, r27, hG2X, e6, h6X, ei, show lim ≤ H.length + 2 by omega, SB, Nat.reduceLT, callee, aOp, ne_eq, Nat.reduceEqDiff, aBin, aUn, if_true, if_false, reduceCtorEq, frame0, place, notTuple, Nat.reduceAdd, Nat.reduceLeDiff, resVal, dite_true, dite_false, Int.reduceEq, Int.reduceLT, Int.reduceLE]
  refine hok _ q3 q5 c5 ((((hEG.chg).trans hC5).mut m6 (.inr (by omega))).app) ?_ ?_
  · exact (((hO.chg hC5 (by simp)).mut m6 fun a e => by have := (hO.block e).1; omega).le (by omega)).app _
  · have hc6 : Chg [H.length + 2] H5 H6 := Chg.refl.mut m6 (.inl (by simp))
    exact ((hO5.chg hc6 fun a e => by have := (hO5.block e).1; simp only [List.mem_singleton]; omega).le (by omega)).app _
end Go.Proofs.Ytcmhnincbkbncaa.Fn
namespace Go.Proofs.Ytcmhnincbkbncaa.Fn
open Go.AM Go.AM.Sym Go.Net
set_option maxRecDepth 100000
set_option linter.unusedVariables false
set_option linter.unusedSimpArgs false
set_option maxHeartbeats 4000000

theorem samelegs_eqv {a b : Leg} : aEq (.agg [.int .i64, .int .i64, .int .i64, .int .i64, .int .i64, .int .i64, .int .i64, .int .u8]) (.agg (encL a).toArray) (.agg (encL b).toArray) = some (decide (a = b)) := by
  simp only [aEq, encL, cellsEq, cellEq, and_self, if_true]
  congr 1
  rw [Bool.eq_iff_iff]
  cases a; cases b
  simp [and_assoc]
def encS (s : Int × Int × Int) : List Value := enc3 s
theorem stop_eqv {a b : Int × Int × Int} : aEq (.agg [.int .i64, .int .i64, .int .i64]) (.agg (enc3 a).toArray) (.agg (enc3 b).toArray) = some (decide (a = b)) := by
  simp only [aEq, enc3, cellsEq, cellEq, and_self, if_true]
  congr 1
  rw [Bool.eq_iff_iff]
  obtain ⟨a1, a2, a3⟩ := a
  obtain ⟨b1, b2, b3⟩ := b
  simp [and_assoc]

theorem samestops_ok [OB] {mp : Bool} {lim ca cb : Nat} {p q : Option Addr} {a b : List (Int × Int × Int)} {H : Heap} {Q : Value → Heap → Prop} (ha : Sl H enc3 3 p a) (hb : Sl H enc3 3 q b) (hn : a.length < 2 ^ 62) :
    CallR E mp lim 31 [.slice p a.length ca, .slice q b.length cb] H Q = Q (.bool (decide (a = b))) H := by
  refine pc (by decide) e31 rfl rfl ?_
  rw [b31, c31]
  by_cases hl : a.length = b.length
  case neg =>
    have h1 : ¬ (a.length : Int) = (b.length : Int) := by omega
    simp only [n31, r31, eq_false h1, SB, Nat.reduceLT, callee, aOp, ne_eq, Nat.reduceEqDiff, aBin, aUn, if_true, if_false, reduceCtorEq, frame0, place, notTuple, Nat.reduceAdd, Nat.reduceLeDiff, resVal, dite_true, dite_false, Int.reduceEq, Int.reduceLT, Int.reduceLE]
    congr 1
    rw [eq_comm, decide_eq_false_iff_not]
    rintro rfl
    exact hl rfl
  have h1 : (a.length : Int) = (b.length : Int) := by omega
  simp only [n31, r31, eq_true h1, SB, Nat.reduceLT, callee, aOp, ne_eq, Nat.reduceEqDiff, aBin, aUn, if_true, if_false, reduceCtorEq, frame0, place, notTuple, Nat.reduceAdd, Nat.reduceLeDiff, resVal, dite_true, dite_false, Int.reduceEq, Int.reduceLT, Int.reduceLE]
  refine Ret_rounds (fun j => a.length - j) (fun j fr G => j ≤ a.length ∧ fr 0 = .slice p a.length ca ∧ fr 1 = .slice q b.length cb ∧ fr 5 = .int .i64 (j : Int) ∧ Ext H G ∧ ∀ i, i < j → gt a i = gt b i) 0 ⟨Nat.zero_le _, (by simp only [FB, Nat.reduceEqDiff]), (by simp only [FB, Nat.reduceEqDiff]), by rfl, Ext.refl.app, fun i hi => by omega⟩ ?_
  intro j fr G ⟨hj, f0, f1, f5, hE, hall⟩ hN
  rw [Ret_code l31_1.eq_1]
  refine Ret_pad ?_
  by_cases hlt : j < a.length
  case neg =>
    obtain rfl : j = a.length := by omega
    simp only [n31, r31, f0, f1, f5, hlt, SB, Nat.reduceLT, callee, aOp, ne_eq, Nat.reduceEqDiff, aBin, aUn, if_true, if_false, reduceCtorEq, frame0, place, notTuple, Nat.reduceAdd, Nat.reduceLeDiff, resVal, dite_true, dite_false, Int.reduceEq, Int.reduceLT, Int.reduceLE]
    rw [decide_eq_true (same_all hl hall)]
  have l1 := fun X => ((hE.sl ha).app X).loadCells enc3_len hlt
  have l2 := fun X => ((hE.sl hb).app X).loadCells enc3_len (by omega : j < b.length)
  have x1 := fun c (kk : IntKind) (H1 : Heap) => (hE.sl ha).idx (c := c) (k := kk) (H1 := H1) hlt
  have x2 := fun c (kk : IntKind) (H1 : Heap) => (hE.sl hb).idx (c := c) (k := kk) (H1 := H1) (by omega : j < b.length)
  have hw1 : IntKind.i64.wrap ((j : Int) + 1) = ((j + 1 : Nat) : Int) := wrap_nat (by omega)
  have hq := stop_eqv (a := gt a j) (b := gt b j)
  by_cases he : gt a j = gt b j
  · rw [decide_eq_true he] at hq
    simp only [n31, r31, f0, f1, f5, hlt, l1, l2, x1, x2, hw1, hq, SB, Nat.reduceLT, callee, aOp, ne_eq, Nat.reduceEqDiff, aBin, aUn, if_true, if_false, reduceCtorEq, frame0, place, notTuple, Nat.reduceAdd, Nat.reduceLeDiff, resVal, dite_true, dite_false, Int.reduceEq, Int.reduceLT, Int.reduceLE]
    exact hN (j + 1) _ _ ⟨by omega, (by simp only [f0, FB, Nat.reduceEqDiff]), (by simp only [f1, FB, Nat.reduceEqDiff]), (by simp only [FB, Nat.reduceEqDiff]), hE.app, same_step hl hlt hall he⟩ (by omega)
  · rw [decide_eq_false he] at hq
    simp only [n31, r31, f0, f1, f5, hlt, l1, l2, x1, x2, hw1, hq, SB, Nat.reduceLT, callee, aOp, ne_eq, Nat.reduceEqDiff, aBin, aUn, if_true, if_false, reduceCtorEq, frame0, place, notTuple, Nat.reduceAdd, Nat.reduceLeDiff, resVal, dite_true, dite_false, Int.reduceEq, Int.reduceLT, Int.reduceLE]
    rw [decide_eq_false]
    rintro rfl
    exact he rfl
theorem samelegs_ok [OB] {mp : Bool} {lim ca cb : Nat} {p q : Option Addr} {a b : List Leg} {H : Heap} {Q : Value → Heap → Prop} (ha : Sl H encL 8 p a) (hb : Sl H encL 8 q b) (hn : a.length < 2 ^ 62) :
    CallR E mp lim 29 [.slice p a.length ca, .slice q b.length cb] H Q = Q (.bool (decide (a = b))) H := by
  refine pc (by decide) e29 rfl rfl ?_
  rw [b29, c29]
  by_cases hl : a.length = b.length
  case neg =>
    have h1 : ¬ (a.length : Int) = (b.length : Int) := by omega
    simp only [n29, r29, eq_false h1, SB, Nat.reduceLT, callee, aOp, ne_eq, Nat.reduceEqDiff, aBin, aUn, if_true, if_false, reduceCtorEq, frame0, place, notTuple, Nat.reduceAdd, Nat.reduceLeDiff, resVal, dite_true, dite_false, Int.reduceEq, Int.reduceLT, Int.reduceLE]
    congr 1
    rw [eq_comm, decide_eq_false_iff_not]
    rintro rfl
    exact hl rfl
  have h1 : (a.length : Int) = (b.length : Int) := by omega
  simp only [n29, r29, eq_true h1, SB, Nat.reduceLT, callee, aOp, ne_eq, Nat.reduceEqDiff, aBin, aUn, if_true, if_false, reduceCtorEq, frame0, place, notTuple, Nat.reduceAdd, Nat.reduceLeDiff, resVal, dite_true, dite_false, Int.reduceEq, Int.reduceLT, Int.reduceLE]
  refine Ret_rounds (fun j => a.length - j) (fun j fr G => j ≤ a.length ∧ fr 0 = .slice p a.length ca ∧ fr 1 = .slice q b.length cb ∧ fr 5 = .int .i64 (j : Int) ∧ Ext H G ∧ ∀ i, i < j → gt a i = gt b i) 0 ⟨Nat.zero_le _, (by simp only [FB, Nat.reduceEqDiff]), (by simp only [FB, Nat.reduceEqDiff]), by rfl, Ext.refl.app, fun i hi => by omega⟩ ?_
  intro j fr G ⟨hj, f0, f1, f5, hE, hall⟩ hN
  rw [Ret_code l29_1.eq_1]
  refine Ret_pad ?_
  by_cases hlt : j < a.length
  case neg =>
    obtain rfl : j = a.length := by omega
    simp only [n29, r29, f0, f1, f5, hlt, SB, Nat.reduceLT, callee, aOp, ne_eq, Nat.reduceEqDiff, aBin, aUn, if_true, if_false, reduceCtorEq, frame0, place, notTuple, Nat.reduceAdd, Nat.reduceLeDiff, resVal, dite_true, dite_false, Int.reduceEq, Int.reduceLT, Int.reduceLE]
    rw [decide_eq_true (same_all hl hall)]
  have l1 := fun X => ((hE.sl ha).app X).loadCells encL_len hlt
  have l2 := fun X => ((hE.sl hb).app X).loadCells encL_len (by omega : j < b.length)
  have x1 := fun c (kk : IntKind) (H1 : Heap) => (hE.sl ha).idx (c := c) (k := kk) (H1 := H1) hlt
  have x2 := fun c (kk : IntKind) (H1 : Heap) => (hE.sl hb).idx (c := c) (k := kk) (H1 := H1) (by omega : j < b.length)
  have hw1 : IntKind.i64.wrap ((j : Int) + 1) = ((j + 1 : Nat) : Int) := wrap_nat (by omega)
  have hq := samelegs_eqv (a := gt a j) (b := gt b j)
  by_cases he : gt a j = gt b j
  · rw [decide_eq_true he] at hq
    simp only [n29, r29, f0, f1, f5, hlt, l1, l2, x1, x2, hw1, hq, SB, Nat.reduceLT, callee, aOp, ne_eq, Nat.reduceEqDiff, aBin, aUn, if_true, if_false, reduceCtorEq, frame0, place, notTuple, Nat.reduceAdd, Nat.reduceLeDiff, resVal, dite_true, dite_false, Int.reduceEq, Int.reduceLT, Int.reduceLE]
    exact hN (j + 1) _ _ ⟨by omega, (by simp only [f0, FB, Nat.reduceEqDiff]), (by simp only [f1, FB, Nat.reduceEqDiff]), (by simp only [FB, Nat.reduceEqDiff]), hE.app, same_step hl hlt hall he⟩ (by omega)
  · rw [decide_eq_false he] at hq
    simp only [n29, r29, f0, f1, f5, hlt, l1, l2, x1, x2, hw1, hq, SB, Nat.reduceLT, callee, aOp, ne_eq, Nat.reduceEqDiff, aBin, aUn, if_true, if_false, reduceCtorEq, frame0, place, notTuple, Nat.reduceAdd, Nat.reduceLeDiff, resVal, dite_true, dite_false, Int.reduceEq, Int.reduceLT, Int.reduceLE]
    rw [decide_eq_false]
    rintro rfl
    exact he rfl

theorem daily_ok [OB] {mp : Bool} {lim : Nat} {a b c d e f : Int} {H : Heap} {Q : Value → Heap → Prop} : CallR E mp lim 17 [.int .i64 a, .int .i64 b, .int .i64 c, .int .i64 d, .int .i64 e, .int .i64 f] H Q = Q (.agg (encL ⟨a, b, c, d, e, f, 0, 127⟩).toArray) H := by
  refine pc (by decide) e17 rfl rfl ?_
  rw [b17, c17]
  simp only [n17, r17, encL, SB, Nat.reduceLT, callee, aOp, ne_eq, Nat.reduceEqDiff, aBin, aUn, if_true, if_false, reduceCtorEq, frame0, place, notTuple, Nat.reduceAdd, Nat.reduceLeDiff, resVal, dite_true, dite_false, Int.reduceEq, Int.reduceLT, Int.reduceLE]
theorem three_ok [OB] {lim : Nat} {H : Heap} {Q : Value → Heap → Prop} (hlim : lim ≤ H.length) (hQ : ∀ H' a b, Ext H H' → NetIn H' a b P3 L3 → Q (.agg (netV a 3 3 b 3 3).toArray) H') : CallR E false lim 60 [] H Q := by
  refine runs' (by decide) e60 rfl ?_
  rw [b60, c60]
  simp only [n60, r60, daily_ok, encL, setAll_full, hlim, SB, Nat.reduceLT, callee, aOp, ne_eq, Nat.reduceEqDiff, aBin, aUn, if_true, if_false, reduceCtorEq, frame0, place, notTuple, Nat.reduceAdd, Nat.reduceLeDiff, resVal, dite_true, dite_false, Int.reduceEq, Int.reduceLT, Int.reduceLE]
  refine hQ _ (some ⟨H.length + 1, 0, none⟩) (some ⟨H.length + 2, 0, none⟩) Ext.refl.app ⟨Sl.row (ro := false) encI_len (by rw [hget_new]; rfl), Sl.row (ro := false) encL_len (by rw [hget_new]; rfl), by decide, by decide, ?_⟩
  intro l hl
  simp only [L3, List.mem_cons, List.not_mem_nil, or_false] at hl
  rcases hl with rfl | rfl | rfl <;> (unfold By; decide)
theorem aw7 : IsArr L3 1 0 3 780 := by
  have hk : arrK 3 (posN P3) (0 + 86400) L3 1 0 2 = [0, 660, 780] := by rw [arrK, arrK, arrK]; exact (congrArg _ s_a).trans s_b
  have h1 := arrK_all (net3 val3) (p := 1) (by decide) (Int.le_refl 0) (by decide : (0 : Int) ≤ 0 + 86400) (k := 2) (by rw [arrK, hk]; exact s_c) 3 (by decide)
  rw [hk] at h1
  exact h1
theorem er3 {p q t : Int} (hp : p ∈ P3) (hq : q ∈ P3) (h0 : 0 ≤ t) (h1 : t ≤ maxTime) : errA P3 L3 p q t = 0 := by
  unfold errA; rw [if_neg (by rw [val3]; decide), if_pos ⟨hp, hq, h0, h1⟩]
theorem erM {p q t : Int} (hp : p ∈ P3) (hq : q ∈ P3) (h0 : 0 ≤ t) (h1 : t ≤ maxTime) : errA P3 M3 p q t = 0 := by
  unfold errA; rw [if_neg (by rw [valM]; decide), if_pos ⟨hp, hq, h0, h1⟩]
theorem awake33_go [OB] {mp : Bool} {lim : Nat} {H : Heap} {Q : Value → Heap → Prop} (hoff : OB.on 21 = false) : CallR E mp lim 21 [] H Q = Q (.bool true) H := by
  refine CallR_pure (E := E) (by simp [E, orc, hoff]) (show E.tr 21 = some a21 from e21) rfl rfl (Ret_pad ?_)
  rw [b21, c21]
  simp only [n21, r21, SB, Nat.reduceLT, callee, aOp, ne_eq, Nat.reduceEqDiff, aBin, aUn, if_true, if_false, reduceCtorEq, frame0, place, notTuple, Nat.reduceAdd, Nat.reduceLeDiff, resVal, dite_true, dite_false, Int.reduceEq, Int.reduceLT, Int.reduceLE]
  rw [List.append_nil]
  refine three_ok (Nat.le_refl _) fun H0 pa pb hE0 hn0 => ?_
  refine Ret_pad ?_
  have hl0 := hE0.len
  simp only [n21, r21, netV_len, netV_0, netV_1, take_all, setAll_full, hl0, SB, Nat.reduceLT, callee, aOp, ne_eq, Nat.reduceEqDiff, aBin, aUn, if_true, if_false, reduceCtorEq, frame0, place, notTuple, Nat.reduceAdd, Nat.reduceLeDiff, resVal, dite_true, dite_false, Int.reduceEq, Int.reduceLT, Int.reduceLE]
  -- Arrive
  refine Arrive_ok (P := P3) (L := L3) (cp := 3) (cl := 3) (hn0.app _) (by simp; omega) (fun _ h => absurd (er3 (by decide) (by decide) (by decide) (by decide)) h) fun H1 q1 T1 _ hC1 hT1 hO1 hl1 => ?_
  have hN1 := hC1.cells (j := H0.length) hget_new0 (by simp)
  have hN1X := fun X => (Ext.refl.app (X := X)).cells hN1
  have hE1 : Ext H0 H1 := hC1.pre.ext
  have hlen1 := hE1.len
  have S1 := hO1.sl encI_len
  obtain rfl := aw1 hT1
  refine Ret_pad ?_
  simp only [n21, r21, hN1X, netV_len, netV_0, netV_1, take_all, SB, Nat.reduceLT, callee, aOp, ne_eq, Nat.reduceEqDiff, aBin, aUn, if_true, if_false, reduceCtorEq, frame0, place, notTuple, Nat.reduceAdd, Nat.reduceLeDiff, resVal, dite_true, dite_false, Int.reduceEq, Int.reduceLT, Int.reduceLE]
  rw [List.append_nil]
  -- Way
  refine Way_ok (P := P3) (L := L3) (cp := 3) (cl := 3) (hn0.ext hE1) (by omega) (fun _ h => absurd (er3 (by decide) (by decide) (by decide) (by decide)) h) (fun _ _ h => by have := h.uniq aw7; omega) fun H2 v w p2 c2 _ hC2 hv0 hv hw _ hO2 => ?_
  obtain ⟨rfl, rfl⟩ := aw6 hv hw
  have hN2 := hC2.cells hN1 (by simp)
  have hN2X := fun X => (Ext.refl.app (X := X)).cells hN2
  have hE2 : Ext H0 H2 := hE1.trans hC2.ext
  have hlen2 := hC2.len
  have S2 := hO2.sl enc3_len
  replace S1 := hC2.ext.sl S1
  refine Ret_pad ?_
  simp only [n21, r21, hN2X, netV_len, netV_0, netV_1, take_all, SB, Nat.reduceLT, callee, aOp, ne_eq, Nat.reduceEqDiff, aBin, aUn, if_true, if_false, reduceCtorEq, frame0, place, notTuple, Nat.reduceAdd, Nat.reduceLeDiff, resVal, dite_true, dite_false, Int.reduceEq, Int.reduceLT, Int.reduceLE]
  rw [List.append_nil]
  refine Arrive_ok (P := P3) (L := L3) (cp := 3) (cl := 3) (hn0.ext hE2) (by omega) (fun _ h => absurd (er3 (by decide) (by decide) (by decide) (by decide)) h) fun H3 q3 T3 _ hC3 hT3 hO3 hl3 => ?_
  have hN3 := hC3.cells hN2 (by simp)
  have hN3X := fun X => (Ext.refl.app (X := X)).cells hN3
  have hE3 : Ext H0 H3 := hE2.trans hC3.ext
  have hlen3 := hC3.len
  have S3 := hO3.sl encI_len
  replace S1 := hC3.ext.sl S1
  replace S2 := hC3.ext.sl S2
  obtain rfl := aw2 hT3
  refine Ret_pad ?_
  simp only [n21, r21, hN3X, netV_len, netV_0, netV_1, take_all, SB, Nat.reduceLT, callee, aOp, ne_eq, Nat.reduceEqDiff, aBin, aUn, if_true, if_false, reduceCtorEq, frame0, place, notTuple, Nat.reduceAdd, Nat.reduceLeDiff, resVal, dite_true, dite_false, Int.reduceEq, Int.reduceLT, Int.reduceLE]
  rw [List.append_nil]
  refine Leave_ok (P := P3) (L := L3) (cp := 3) (cl := 3) (hn0.ext hE3) (by omega) (fun _ h => absurd (er3 (by decide) (by decide) (by decide) (by decide)) h) fun H4 q4 T4 _ hC4 hT4 hO4 hl4 => ?_
  have hN4 := hC4.cells hN3 (by simp)
  have hN4X := fun X => (Ext.refl.app (X := X)).cells hN4
  have hE4 : Ext H0 H4 := hE3.trans hC4.ext
  have hlen4 := hC4.len
  have S4 := hO4.sl encI_len
  replace S1 := hC4.ext.sl S1
  replace S2 := hC4.ext.sl S2
  replace S3 := hC4.ext.sl S3
  obtain rfl := aw5 hT4
  refine Ret_pad ?_
  simp only [n21, r21, hN4X, netV_len, netV_0, netV_1, take_all, SB, Nat.reduceLT, callee, aOp, ne_eq, Nat.reduceEqDiff, aBin, aUn, if_true, if_false, reduceCtorEq, frame0, place, notTuple, Nat.reduceAdd, Nat.reduceLeDiff, resVal, dite_true, dite_false, Int.reduceEq, Int.reduceLT, Int.reduceLE]
  rw [List.append_nil]
  refine Without_ok (P := P3) (L := L3) (cp := 3) (cl := 3) (hn0.ext hE4) (.inr ⟨by decide, by decide⟩) (by decide) (by omega) val3 ⟨g2, by simp [L3], rfl⟩ fun H5 qp ql cql hC5 hOp hOl => ?_
  have hid : (L3.findIdx fun l => l.id = 2) = 1 := rfl
  rw [hid] at hOl
  replace hOl : OwnZ H4.length H5 encL 8 ql cql M3 := hOl
  have hN5 := hC5.cells hN4 (by simp)
  have hN5X := fun X => (Ext.refl.app (X := X)).cells hN5
  have hE5 : Ext H0 H5 := hE4.trans hC5.ext
  have hlen5 := hC5.len
  replace S1 := hC5.ext.sl S1
  replace S2 := hC5.ext.sl S2
  replace S3 := hC5.ext.sl S3
  replace S4 := hC5.ext.sl S4
  have hnM : NetIn H5 qp ql P3 M3 := ⟨hOp.sl encI_len, hOl.sl encL_len, by decide, by decide, fun l hl => hn0.bys l (by
    simp only [M3, List.mem_cons, List.not_mem_nil, or_false] at hl
    rcases hl with rfl | rfl <;> simp [L3])⟩
  refine Ret_pad ?_
  simp only [n21, r21, netV_len, netV_0, netV_1, take_all, setAll_full, show H.length ≤ H5.length by omega, SB, Nat.reduceLT, callee, aOp, ne_eq, Nat.reduceEqDiff, aBin, aUn, if_true, if_false, reduceCtorEq, frame0, place, notTuple, Nat.reduceAdd, Nat.reduceLeDiff, resVal, dite_true, dite_false, Int.reduceEq, Int.reduceLT, Int.reduceLE]
  refine Arrive_ok (P := P3) (L := M3) (cp := loose 1) (cl := cql) (hnM.app _) (by simp; omega) (fun _ h => absurd (erM (by decide) (by decide) (by decide) (by decide)) h) fun H6 q6 T6 _ hC6 hT6 hO6 hl6 => ?_
  have hC6' := hC6.pre
  have hN6 := hC6'.cells hN5 (by simp)
  have hN6X := fun X => (Ext.refl.app (X := X)).cells hN6
  have hE6 : Ext H0 H6 := hE5.trans hC6'.ext
  have hlen6 := hC6'.len
  have S6 := hO6.sl encI_len
  replace S1 := hC6'.ext.sl S1
  replace S2 := hC6'.ext.sl S2
  replace S3 := hC6'.ext.sl S3
  replace S4 := hC6'.ext.sl S4
  obtain rfl := aw3 hT6
  refine Ret_pad ?_
  simp only [n21, r21, hN6X, netV_len, netV_0, netV_1, take_all, SB, Nat.reduceLT, callee, aOp, ne_eq, Nat.reduceEqDiff, aBin, aUn, if_true, if_false, reduceCtorEq, frame0, place, notTuple, Nat.reduceAdd, Nat.reduceLeDiff, resVal, dite_true, dite_false, Int.reduceEq, Int.reduceLT, Int.reduceLE]
  rw [List.append_nil]
  refine Way_ok (P := P3) (L := L3) (cp := 3) (cl := 3) (hn0.ext hE6) (by omega) (fun _ h => absurd (er3 (by decide) (by decide) (by decide) (by decide)) h) (fun H7 _ _ hC7 => ?_) fun H7 v w p7 c7 _ hC7 hv0 hv hw _ hO7 => ?_
  · replace S1 := hC7.ext.sl S1
    replace S2 := hC7.ext.sl S2
    replace S3 := hC7.ext.sl S3
    replace S4 := hC7.ext.sl S4
    replace S6 := hC7.ext.sl S6
    have f1 : ∀ (X : Heap) (mp : Bool) (lim : Nat) (Q : Value → Heap → Prop), CallR E mp lim 28 [.slice q1 P3.length (loose 1), .slice (some ⟨H7.length, 0, none⟩) 3 3] (H7 ++ .cells false [.int .i64 0, .int .i64 660, .int .i64 780] :: X) Q = Q (.bool true) (H7 ++ .cells false [.int .i64 0, .int .i64 660, .int .i64 780] :: X) := fun X mp lim Q =>
      sameints_ok (a := [0, 660, 780]) (b := [0, 660, 780]) (S1.app _) (Sl.row (ro := false) encI_len (by rw [hget_new0]; rfl)) (by decide)
    have f2 : ∀ (a : Blk) (X : Heap) (mp : Bool) (lim : Nat) (Q : Value → Heap → Prop), CallR E mp lim 31 [.slice p2 2 c2, .slice (some ⟨H7.length + 1, 0, none⟩) 2 2] (H7 ++ a :: .cells false [.int .i64 1, .int .i64 600, .int .i64 660, .int .i64 2, .int .i64 720, .int .i64 780] :: X) Q = Q (.bool true) (H7 ++ a :: .cells false [.int .i64 1, .int .i64 600, .int .i64 660, .int .i64 2, .int .i64 720, .int .i64 780] :: X) := fun a X mp lim Q =>
      samestops_ok (a := [(g1, (600 : Int)), (g2, 720)].map stopOf) (b := [(1, 600, 660), (2, 720, 780)]) (S2.app _) (Sl.row (ro := false) enc3_len (by rw [hget_new]; rfl)) (by decide)
    have f3 : ∀ (a b : Blk) (X : Heap) (mp : Bool) (lim : Nat) (Q : Value → Heap → Prop), CallR E mp lim 28 [.slice q3 P3.length (loose 1), .slice (some ⟨H7.length + 2, 0, none⟩) 3 3] (H7 ++ a :: b :: .cells false [.int .i64 601, .int .i64 2100, .int .i64 2220] :: X) Q = Q (.bool true) (H7 ++ a :: b :: .cells false [.int .i64 601, .int .i64 2100, .int .i64 2220] :: X) := fun a b X mp lim Q =>
      sameints_ok (a := [601, 2100, 2220]) (b := [601, 2100, 2220]) (S3.app _) (Sl.row (ro := false) encI_len (by rw [hget_new]; rfl)) (by decide)
    have f4 : ∀ (a b c : Blk) (X : Heap) (mp : Bool) (lim : Nat) (Q : Value → Heap → Prop), CallR E mp lim 28 [.slice q4 P3.length (loose 1), .slice (some ⟨H7.length + 3, 0, none⟩) 3 3] (H7 ++ a :: b :: c :: .cells false [.int .i64 600, .int .i64 660, .int .i64 780] :: X) Q = Q (.bool true) (H7 ++ a :: b :: c :: .cells false [.int .i64 600, .int .i64 660, .int .i64 780] :: X) := fun a b c X mp lim Q =>
      sameints_ok (a := [600, 660, 780]) (b := [600, 660, 780]) (S4.app _) (Sl.row (ro := false) encI_len (by rw [hget_new]; rfl)) (by decide)
    have f5 : ∀ (a b c d : Blk) (X : Heap) (mp : Bool) (lim : Nat) (Q : Value → Heap → Prop), CallR E mp lim 28 [.slice q6 P3.length (loose 1), .slice (some ⟨H7.length + 4, 0, none⟩) 3 3] (H7 ++ a :: b :: c :: d :: .cells false [.int .i64 0, .int .i64 660, .int .i64 840] :: X) Q = Q (.bool true) (H7 ++ a :: b :: c :: d :: .cells false [.int .i64 0, .int .i64 660, .int .i64 840] :: X) := fun a b c d X mp lim Q =>
      sameints_ok (a := [0, 660, 840]) (b := [0, 660, 840]) (S6.app _) (Sl.row (ro := false) encI_len (by rw [hget_new]; rfl)) (by decide)
    refine Ret_pad ?_
    simp only [n21, r21, f1, f2, f3, f4, f5, SB, Nat.reduceLT, callee, aOp, ne_eq, Nat.reduceEqDiff, aBin, aUn, if_true, if_false, reduceCtorEq, frame0, place, notTuple, Nat.reduceAdd, Nat.reduceLeDiff, resVal, dite_true, dite_false, Int.reduceEq, Int.reduceLT, Int.reduceLE]
  · have := aw4 hv; omega
end Go.Proofs.Ytcmhnincbkbncaa.Fn
namespace Go.Proofs.Ytcmhnincbkbncaa.Fn
open Go.AM Go.AM.Sym Go.Net
set_option maxRecDepth 100000
set_option linter.unusedVariables false
set_option linter.unusedSimpArgs false
set_option maxHeartbeats 4000000

/-- What a slice of numbers of one's own is read as. -/
theorem ld_ints {H : Heap} {q : Option Addr} {T : List Int} {i : Nat} (h : Sl H encI 1 q T) (hi : i < T.length) : ∀ X, AM.loadCell (H ++ X) (elt q 1 i) = some (.int .i64 (gt T i)) := fun X => by
  rw [(h.app X).loadCell0 encI_len hi (by decide)]; rfl
theorem ix_ints {H : Heap} {q : Option Addr} {T : List Int} {i n : Nat} (h : Sl H encI 1 q T) (hi : i < n) (hT : T.length = n) : ∀ (c : Nat) (k : IntKind) (H1 : Heap), idxK 1 (.slice q n c) (.int k (i : Int)) H1 = some (.pointer (some (elt q 1 i)), H1) := fun c k H1 => by
  subst hT; exact h.idx hi
theorem gt_getD {T : List Int} {i : Nat} (h : i < T.length) : gt T i = T.getD i (-1) := by
  rw [gt_lt h, List.getD_eq_getElem?_getD, List.getElem?_eq_getElem h]; rfl
theorem fits_err {P : List Int} {L : List Leg} {a b t : Int} (h : fitsP P L a b t) : errA P L a b t = 0 := by
  unfold errA
  rw [if_neg (by simpa using h.2.1), if_pos h.2.2]

theorem btt : (true == true) = true := id rfl
theorem btf : (true == false) = false := id rfl
theorem bft : (false == true) = false := id rfl
theorem bff : (false == false) = true := id rfl
def pickN (a n : Int) : Int := if n < 1 then 0 else if Int.tmod a n < 0 then Int.tmod a n + n else Int.tmod a n
theorem pickN_range {a n : Int} (h : 1 ≤ n) : 0 ≤ pickN a n ∧ pickN a n < n := by
  unfold pickN
  rw [if_neg (by omega)]
  have h1 := Int.lt_tmod_of_pos a (show 0 < n by omega)
  have h2 := Int.tmod_lt_of_pos a (show 0 < n by omega)
  split <;> omega
theorem pick_ok [OB] {mp : Bool} {lim : Nat} {a n : Int} {H : Heap} {Q : Value → Heap → Prop} (hn : n < 2 ^ 62) : CallR E mp lim 26 [.int .i64 a, .int .i64 n] H Q = Q (.int .i64 (pickN a n)) H := by
  refine pc (by decide) e26 rfl rfl ?_
  rw [b26, c26]
  by_cases h1 : n < 1
  · simp only [n26, r26, h1, SB, Nat.reduceLT, callee, aOp, ne_eq, Nat.reduceEqDiff, aBin, aUn, if_true, if_false, reduceCtorEq, frame0, place, notTuple, Nat.reduceAdd, Nat.reduceLeDiff, resVal, dite_true, dite_false, Int.reduceEq, Int.reduceLT, Int.reduceLE]
    rw [pickN, if_pos h1]
  · have h0 : ¬ n = 0 := by omega
    by_cases h2 : Int.tmod a n < 0
    · have hr := pickN_range (a := a) (show 1 ≤ n by omega)
      rw [pickN, if_neg h1, if_pos h2] at hr
      have w : IntKind.i64.wrap (Int.tmod a n + n) = Int.tmod a n + n := wrap_id (by omega) (by omega)
      simp only [n26, r26, h1, h0, h2, w, SB, Nat.reduceLT, callee, aOp, ne_eq, Nat.reduceEqDiff, aBin, aUn, if_true, if_false, reduceCtorEq, frame0, place, notTuple, Nat.reduceAdd, Nat.reduceLeDiff, resVal, dite_true, dite_false, Int.reduceEq, Int.reduceLT, Int.reduceLE]
      rw [pickN, if_neg h1, if_pos h2]
    · simp only [n26, r26, h1, h0, h2, SB, Nat.reduceLT, callee, aOp, ne_eq, Nat.reduceEqDiff, aBin, aUn, if_true, if_false, reduceCtorEq, frame0, place, notTuple, Nat.reduceAdd, Nat.reduceLeDiff, resVal, dite_true, dite_false, Int.reduceEq, Int.reduceLT, Int.reduceLE]
      rw [pickN, if_neg h1, if_neg h2]

theorem plants_iff {P : List Int} : PlantsOk P ↔ (∀ p ∈ P, 1 ≤ p ∧ p ≤ 999999) ∧ P.Nodup := by
  constructor
  · intro h
    refine ⟨fun p hp => ?_, ?_⟩
    · obtain ⟨i, hi, rfl⟩ := List.mem_iff_getElem.1 hp
      have := h i hi
      unfold pOk at this
      rw [gt_lt hi] at this
      exact ⟨this.1, this.2.1⟩
    · unfold List.Nodup
      rw [List.pairwise_iff_getElem]
      intro i j hi hj hij e
      have h2 := (h j hj).2.2
      rw [gt_lt hj] at h2
      exact h2 (List.mem_take_iff_getElem.2 ⟨i, by omega, e⟩)
  · rintro ⟨h1, h2⟩ i hi
    unfold pOk
    rw [gt_lt hi]
    refine ⟨(h1 _ (List.getElem_mem hi)).1, (h1 _ (List.getElem_mem hi)).2, fun hm => ?_⟩
    obtain ⟨j, hj, e⟩ := List.mem_take_iff_getElem.1 hm
    unfold List.Nodup at h2
    rw [List.pairwise_iff_getElem] at h2
    exact h2 j i (by omega) hi (by omega) e
theorem legs_iff {P : List Int} {L : List Leg} : LegsOk P L ↔ (∀ l ∈ L, Fine l ∧ l.frm ∈ P ∧ l.dst ∈ P) ∧ L.Pairwise (fun a b => a.id ≠ b.id) := by
  constructor
  · intro h
    refine ⟨fun l hl => ?_, legs_ids h⟩
    obtain ⟨i, hi, rfl⟩ := List.mem_iff_getElem.1 hl
    have := h i hi
    unfold lOk at this
    rw [gt_lt hi] at this
    exact ⟨this.1, this.2.2⟩
  · rintro ⟨h1, h2⟩ i hi
    unfold lOk
    rw [gt_lt hi]
    have h3 := h1 _ (List.getElem_mem hi)
    refine ⟨h3.1, fun hm => ?_, h3.2⟩
    obtain ⟨l, hl, e⟩ := List.mem_map.1 hm
    obtain ⟨j, hj, rfl⟩ := List.mem_take_iff_getElem.1 hl
    rw [List.pairwise_iff_getElem] at h2
    exact h2 j i (by omega) hi (by omega) e
theorem validN_of {P : List Int} {L : List Leg} (h1 : P.length ≤ 50) (h2 : L.length ≤ 200) (h3 : PlantsOk P) (h4 : LegsOk P L) : validN P L = 0 := by
  unfold validN
  rw [if_neg (by omega), if_neg (by simpa using h3), if_neg (by simpa using h4)]
theorem validN_perm {P P' : List Int} {L L' : List Leg} (h : validN P L = 0) (hp : P'.Perm P) (hl : L'.Perm L) : validN P' L' = 0 := by
  obtain ⟨h1, h2, h3, h4⟩ := validN_0 h
  rw [plants_iff] at h3
  rw [legs_iff] at h4
  refine validN_of (by rw [hp.length_eq]; exact h1) (by rw [hl.length_eq]; exact h2) (plants_iff.2 ⟨fun p hm => h3.1 p (hp.mem_iff.1 hm), hp.nodup_iff.2 h3.2⟩) (legs_iff.2 ⟨fun l hm => ?_, (hl.pairwise_iff (fun h e => h e.symm)).2 h4.2⟩)
  have := h4.1 l (hl.mem_iff.1 hm)
  exact ⟨this.1, hp.mem_iff.2 this.2.1, hp.mem_iff.2 this.2.2⟩
theorem ids_inj {L : List Leg} (h : L.Pairwise (fun a b => a.id ≠ b.id)) : ∀ a ∈ L, ∀ b ∈ L, a.id = b.id → a = b := by
  intro a ha b hb e
  obtain ⟨i, hi, rfl⟩ := List.mem_iff_getElem.1 ha
  obtain ⟨j, hj, rfl⟩ := List.mem_iff_getElem.1 hb
  rw [List.pairwise_iff_getElem] at h
  rcases Nat.lt_trichotomy i j with h1 | h1 | h1
  · exact absurd e (h i j hi hj h1)
  · subst h1; rfl
  · exact absurd e.symm (h j i hj hi h1)
theorem _root_.Go.AM.Sl.app2 {α : Type} {H : Heap} {enc : α → List Value} {e : Nat} {p : Option Addr} {l : List α} (h : Sl H enc e p l) : Sl (H ++ []) enc e p l := h.app []
end Go.Proofs.Ytcmhnincbkbncaa.Fn
namespace Go.Proofs.Ytcmhnincbkbncaa.Fn
open Go.AM Go.AM.Sym Go.Net
set_option maxRecDepth 100000
set_option linter.unusedVariables false
set_option linter.unusedSimpArgs false
set_option maxHeartbeats 4000000

/-- Two lists behind an empty literal. -/
theorem cut_append {lim c1 c2 : Nat} {q1 q2 : Option Addr} {m1 m2 : List Leg} {G : Heap} (s1 : Sl G encL 8 q1 m1) (s2 : Sl G encL 8 q2 m2) (hn : m1.length + m2.length < 2 ^ 20) (hlim : lim ≤ G.length) :
    ∃ q k1 x1 q' k2 y0 y1 y2, aAppend lim (some (G.length + 1)) 8 64 false (.slice (some ⟨G.length, 0, none⟩) 0 0) (.slice q1 m1.length c1) (G ++ [.cells false [], .dead, .dead]) = some (.slice q m1.length k1, G ++ [.cells false [], x1, .dead]) ∧
      appendLV lim (some (G.length + 2)) 8 64 false (.slice q m1.length k1) (.slice q2 m2.length c2) (G ++ [.cells false [], x1, .dead]) = some (.slice q' (m1.length + m2.length) k2, G ++ [y0, y1, y2]) ∧ Sl (G ++ [y0, y1, y2]) encL 8 q' (m1 ++ m2) := by
  have hb0 : ∀ X : Heap, AM.loadCells (G ++ .cells false [] :: X) ⟨G.length, 0, none⟩ (0 * 8) = some [] := fun X => by simp [loadCells_lit, hget_new0]
  have f1 := first_slice (k := c1) (s1.app [.cells false [], .dead, .dead])
  have mb : maxBytes = 2 ^ 45 := rfl
  by_cases h1 : m1 = []
  · subst h1
    simp only [List.length_nil] at f1
    have e1 : aAppend lim (some (G.length + 1)) 8 64 false (.slice (some ⟨G.length, 0, none⟩) 0 0) (.slice q1 ([] : List Leg).length c1) (G ++ [.cells false [], .dead, .dead]) = some (.slice (some ⟨G.length, 0, none⟩) ([] : List Leg).length 0, G ++ [.cells false [], .dead, .dead]) := by
      simp only [aAppend, f1, lenOf, List.length_nil]
      simp
    have f2 := first_slice (k := c2) (s2.app [.cells false [], .dead, .dead])
    by_cases h2 : m2 = []
    · subst h2
      simp only [List.length_nil] at f2
      refine ⟨_, _, _, some ⟨G.length, 0, none⟩, 0, .cells false [], .dead, .dead, e1, ?_, ⟨rfl, fun h => absurd rfl h⟩⟩
      rw [appendLV_some, if_pos (.inr rfl)]
      simp only [aAppend, f2, lenOf, List.length_nil]
      simp
    · have hm0 : ¬ m2.length = 0 := fun q => h2 (List.length_eq_zero_iff.1 q)
      refine ⟨_, _, _, some ⟨G.length + 2, 0, none⟩, loose 8, .cells false [], .dead, .cells false (m2.flatMap encL), e1, ?_, ?_⟩
      · rw [appendLV_some, if_pos (.inr rfl)]
        simp only [List.length_nil, Nat.zero_add] at hn ⊢
        simp only [aAppend, f2, lenOf, hb0]
        rw [if_neg (by rw [mb]; omega), if_neg hm0, if_neg (by unfold loose; omega), if_pos (by decide), if_neg (by omega)]
        simp [place, set_new]
      · rw [List.nil_append]
        exact Sl.row (ro := false) encL_len (by rw [hget_new]; rfl)
  · have hm0 : ¬ m1.length = 0 := fun q => h1 (List.length_eq_zero_iff.1 q)
    have e1 : aAppend lim (some (G.length + 1)) 8 64 false (.slice (some ⟨G.length, 0, none⟩) 0 0) (.slice q1 m1.length c1) (G ++ [.cells false [], .dead, .dead]) = some (.slice (some ⟨G.length + 1, 0, none⟩) m1.length (loose 8), G ++ [.cells false [], .cells false (m1.flatMap encL), .dead]) := by
      simp only [aAppend, f1, lenOf, hb0]
      rw [if_neg (by rw [mb]; omega), if_neg hm0, if_neg (by unfold loose; omega), if_pos (by decide), if_neg (by omega)]
      simp [place, set_new]
    have f2 := first_slice (k := c2) (s2.app [.cells false [], .cells false (m1.flatMap encL), .dead])
    by_cases h2 : m2 = []
    · subst h2
      simp only [List.length_nil] at f2
      refine ⟨_, _, _, some ⟨G.length + 1, 0, none⟩, loose 8, .cells false [], .cells false (m1.flatMap encL), .dead, e1, ?_, ?_⟩
      · rw [appendLV_some, if_pos (.inl rfl)]
        simp only [List.length_nil, Nat.add_zero] at hn ⊢
        simp only [aAppend, f2, lenOf, List.length_nil, Nat.add_zero]
        rw [if_neg (by rw [mb]; unfold loose; omega)]
        simp
      · rw [List.append_nil]
        exact Sl.row (ro := false) encL_len (by rw [hget_new]; rfl)
    · have hm2 : ¬ m2.length = 0 := fun q => h2 (List.length_eq_zero_iff.1 q)
      have hR : hget (G ++ [.cells false [], .cells false (m1.flatMap encL), .dead]) (G.length + 1) = .cells false (m1.flatMap encL) := by rw [hget_new]; rfl
      have hold : AM.loadCells (G ++ [.cells false [], .cells false (m1.flatMap encL), .dead]) ⟨G.length + 1, 0, none⟩ (m1.length * 8) = some (m1.flatMap encL) := by
        simp only [loadCells_lit, hR, Nat.zero_add, flat_len encL_len, Nat.le_refl, if_true, List.drop_zero]
        rw [List.take_of_length_le (by rw [flat_len encL_len]; exact Nat.le_refl _)]
      refine ⟨_, _, _, some ⟨G.length + 2, 0, none⟩, loose 8, .cells false [], .dead, .cells false ((m1 ++ m2).flatMap encL), e1, ?_, Sl.row (ro := false) encL_len (by rw [hget_new]; rfl)⟩
      rw [appendLV_some, if_pos (.inl rfl)]
      simp only [aAppend, f2, lenOf, hold, hR]
      rw [if_neg (by rw [mb]; unfold loose; omega), if_neg hm2, if_pos trivial, if_pos (by omega)]
      simp [place, set_new]
end Go.Proofs.Ytcmhnincbkbncaa.Fn
namespace Go.Proofs.Ytcmhnincbkbncaa.Fn
open Go.AM Go.AM.Sym Go.Net
set_option maxRecDepth 100000
set_option linter.unusedVariables false
set_option linter.unusedSimpArgs false
set_option maxHeartbeats 4000000

def rest6 : ACode := tlC (tlC (tlC (tlC (tlC c6))))
theorem c6_cut : c6 = .seq (hdC c6) (.seq (hdC (tlC c6)) (.seq (hdC (tlC (tlC c6))) (.seq (hdC (tlC (tlC (tlC c6)))) (.seq (hdC (tlC (tlC (tlC (tlC c6))))) rest6)))) := rfl

def restA : ACode := tlC (tlC (tlC (tlC (tlC rest6))))
theorem rest6_cut : rest6 = .seq (hdC rest6) (.seq (hdC (tlC rest6)) (.seq (hdC (tlC (tlC rest6))) (.seq (hdC (tlC (tlC (tlC rest6)))) (.seq (hdC (tlC (tlC (tlC (tlC rest6))))) restA)))) := rfl
def hasL (w : List (Leg × Int)) (a : Int) : Bool := w.any fun x => decide (x.1.id = a)
theorem hasL_take {w : List (Leg × Int)} {a : Int} {i : Nat} (h : i < w.length) : hasL (w.take (i + 1)) a = (hasL (w.take i) a || decide (w[i].1.id = a)) := by
  unfold hasL
  rw [List.take_succ_eq_append_getElem h, List.any_append]; simp
theorem without_tail [OB] {pp pl x1 x2 pw pw' : Option Addr} {P T1 T2 : List Int} {L : List Leg} {cp cl k n cw cw' : Nat} {w w' : List (Leg × Int)} {e f : Int} {H G : Heap} {fr : Nat → Value}
    (hB : hget G H.length = .cells false (netV pp P.length cp pl L.length cl)) (hL : Sl G encL 8 pl L) (hlt : k < L.length) (hl : H.length ≤ G.length)
    (s1 : Sl G encI 1 x1 T1) (s2 : Sl G encI 1 x2 T2) (l1 : T1.length = n) (l2 : T2.length = n) (hn : n ≤ 50) (sw : Sl G enc3 3 pw (w.map stopOf)) (sw' : Sl G enc3 3 pw' (w'.map stopOf)) (hwl : w.length < 2 ^ 30)
    (h : ∀ i, i < n → ¬ (0 ≤ gt T2 i ∧ (gt T1 i < 0 ∨ gt T2 i < gt T1 i))) (hfin : hasL w (gt L k).id = true ∨ (e = f ∧ w.map stopOf = w'.map stopOf))
    (f5 : fr 5 = .pointer (some ⟨H.length, 0, none⟩)) (f11 : fr 11 = .int .i64 (k : Int)) (f14 : fr 14 = .slice x1 n (loose 1)) (f16 : fr 16 = .slice x2 n (loose 1)) (f17 : fr 17 = .int .i64 0) (f18 : fr 18 = .slice pw w.length cw) (f19 : fr 19 = .int .i64 e) (f20 : fr 20 = .slice pw' w'.length cw') (f21 : fr 21 = .int .i64 f) :
    Ret E a6 H.length [.code restA] fr (G ++ []) fun v' _ => v' = .bool true := by
  simp only [restA, rest6, c6, hdC, tlC]
  simp only [n6, r6, f5, f11, f14, f16, f17, f18, f19, f20, f21, SB, Nat.reduceLT, callee, aOp, ne_eq, Nat.reduceEqDiff, aBin, aUn, if_true, if_false, reduceCtorEq, frame0, place, notTuple, Nat.reduceAdd, Nat.reduceLeDiff, resVal, dite_true, dite_false, Int.reduceEq, Int.reduceLT, Int.reduceLE]
  refine Ret_rounds (fun i => n - i) (fun i fr' G' => i ≤ n ∧ fr' 5 = .pointer (some ⟨H.length, 0, none⟩) ∧ fr' 11 = .int .i64 (k : Int) ∧ fr' 14 = .slice x1 n (loose 1) ∧ fr' 16 = .slice x2 n (loose 1) ∧ fr' 18 = .slice pw w.length cw ∧ fr' 19 = .int .i64 e ∧ fr' 20 = .slice pw' w'.length cw' ∧ fr' 21 = .int .i64 f ∧ fr' 22 = .int .i64 (i : Int) ∧ Ext G G') 0 ⟨Nat.zero_le _, (by simp only [f5, FB, Nat.reduceEqDiff]), (by simp only [f11, FB, Nat.reduceEqDiff]), (by simp only [f14, FB, Nat.reduceEqDiff]), (by simp only [f16, FB, Nat.reduceEqDiff]), (by simp only [f18, FB, Nat.reduceEqDiff]), (by simp only [f19, FB, Nat.reduceEqDiff]), (by simp only [f20, FB, Nat.reduceEqDiff]), (by simp only [f21, FB, Nat.reduceEqDiff]), by rfl, Ext.refl.app⟩ ?_
  intro i fr' G' ⟨hi, g5, g11, g14, g16, g18, g19, g20, g21, g22, hE⟩ hN
  rw [Ret_code l6_2.eq_1]
  refine Ret_pad ?_
  by_cases hlt1 : i < n
  case pos =>
    have a1 := ld_ints (i := i) (hE.sl s1) (by omega)
    have a2 := ld_ints (i := i) (hE.sl s2) (by omega)
    have y1 := ix_ints (i := i) (hE.sl s1) hlt1 l1
    have y2 := ix_ints (i := i) (hE.sl s2) hlt1 l2
    have w3 : IntKind.i64.wrap ((i : Int) + 1) = ((i + 1 : Nat) : Int) := wrap_nat (by omega)
    have hc := h i hlt1
    generalize gt T1 i = x at *
    generalize gt T2 i = y at *
    by_cases h0 : 0 ≤ y
    · have c1 : ¬ x < 0 := fun q => hc ⟨h0, .inl q⟩
      have c2 : ¬ y < x := fun q => hc ⟨h0, .inr q⟩
      simp only [n6, r6, g14, g16, g22, hlt1, a1, a2, y1, y2, w3, eq_true h0, eq_false c1, eq_false c2, SB, Nat.reduceLT, callee, aOp, ne_eq, Nat.reduceEqDiff, aBin, aUn, if_true, if_false, reduceCtorEq, frame0, place, notTuple, Nat.reduceAdd, Nat.reduceLeDiff, resVal, dite_true, dite_false, Int.reduceEq, Int.reduceLT, Int.reduceLE]
      exact hN (i + 1) _ _ ⟨by omega, (by simp only [g5, FB, Nat.reduceEqDiff]), (by simp only [g11, FB, Nat.reduceEqDiff]), (by simp only [g14, FB, Nat.reduceEqDiff]), (by simp only [g16, FB, Nat.reduceEqDiff]), (by simp only [g18, FB, Nat.reduceEqDiff]), (by simp only [g19, FB, Nat.reduceEqDiff]), (by simp only [g20, FB, Nat.reduceEqDiff]), (by simp only [g21, FB, Nat.reduceEqDiff]), (by simp only [FB, Nat.reduceEqDiff]), hE.app⟩ (by omega)
    · simp only [n6, r6, g14, g16, g22, hlt1, a1, a2, y1, y2, w3, eq_false h0, SB, Nat.reduceLT, callee, aOp, ne_eq, Nat.reduceEqDiff, aBin, aUn, if_true, if_false, reduceCtorEq, frame0, place, notTuple, Nat.reduceAdd, Nat.reduceLeDiff, resVal, dite_true, dite_false, Int.reduceEq, Int.reduceLT, Int.reduceLE]
      exact hN (i + 1) _ _ ⟨by omega, (by simp only [g5, FB, Nat.reduceEqDiff]), (by simp only [g11, FB, Nat.reduceEqDiff]), (by simp only [g14, FB, Nat.reduceEqDiff]), (by simp only [g16, FB, Nat.reduceEqDiff]), (by simp only [g18, FB, Nat.reduceEqDiff]), (by simp only [g19, FB, Nat.reduceEqDiff]), (by simp only [g20, FB, Nat.reduceEqDiff]), (by simp only [g21, FB, Nat.reduceEqDiff]), (by simp only [FB, Nat.reduceEqDiff]), hE.app⟩ (by omega)
  obtain rfl : i = n := by omega
  simp only [n6, r6, g5, g11, g14, g16, g18, g19, g20, g21, g22, hlt1, SB, Nat.reduceLT, callee, aOp, ne_eq, Nat.reduceEqDiff, aBin, aUn, if_true, if_false, reduceCtorEq, frame0, place, notTuple, Nat.reduceAdd, Nat.reduceLeDiff, resVal, dite_true, dite_false, Int.reduceEq, Int.reduceLT, Int.reduceLE]
  refine Ret_rounds (fun j => w.length - j) (fun j fr2 G2 => j ≤ w.length ∧ fr2 5 = .pointer (some ⟨H.length, 0, none⟩) ∧ fr2 11 = .int .i64 (k : Int) ∧ fr2 18 = .slice pw w.length cw ∧ fr2 19 = .int .i64 e ∧ fr2 20 = .slice pw' w'.length cw' ∧ fr2 21 = .int .i64 f ∧ fr2 23 = .bool (hasL (w.take j) (gt L k).id) ∧ fr2 24 = .int .i64 (j : Int) ∧ Ext G G2) 0 ⟨Nat.zero_le _, (by simp only [g5, FB, Nat.reduceEqDiff]), (by simp only [g11, FB, Nat.reduceEqDiff]), (by simp only [g18, FB, Nat.reduceEqDiff]), (by simp only [g19, FB, Nat.reduceEqDiff]), (by simp only [g20, FB, Nat.reduceEqDiff]), (by simp only [g21, FB, Nat.reduceEqDiff]), by rfl, by rfl, hE.app⟩ ?_
  intro j fr2 G2 ⟨hj, k5, k11, k18, k19, k20, k21, k23, k24, hE2⟩ hM
  rw [Ret_code l6_1.eq_1]
  refine Ret_pad ?_
  by_cases hlt2 : j < w.length
  case neg =>
    obtain rfl : j = w.length := by omega
    rw [List.take_length] at k23
    cases hh : hasL w (gt L k).id with
    | true =>
      rw [hh] at k23
      simp only [n6, r6, k5, k11, k18, k19, k20, k21, k23, k24, hlt2, SB, Nat.reduceLT, callee, aOp, ne_eq, Nat.reduceEqDiff, aBin, aUn, if_true, if_false, reduceCtorEq, frame0, place, notTuple, Nat.reduceAdd, Nat.reduceLeDiff, resVal, dite_true, dite_false, Int.reduceEq, Int.reduceLT, Int.reduceLE]
    | false =>
      obtain ⟨rfl, hww⟩ := hfin.resolve_left (by rw [hh]; decide)
      rw [hh] at k23
      have hsm := fun X (mp : Bool) (lim : Nat) (Q : Value → Heap → Prop) => samestops_ok (mp := mp) (lim := lim) (Q := Q) (ca := cw) (cb := cw') (H := G2 ++ X) ((hE2.sl sw).app X) ((hE2.sl sw').app X) (by rw [List.length_map]; omega)
      rw [decide_eq_true hww] at hsm
      simp only [List.length_map] at hsm
      simp only [n6, r6, k5, k11, k18, k19, k20, k21, k23, k24, hlt2, hsm, SB, Nat.reduceLT, callee, aOp, ne_eq, Nat.reduceEqDiff, aBin, aUn, if_true, if_false, reduceCtorEq, frame0, place, notTuple, Nat.reduceAdd, Nat.reduceLeDiff, resVal, dite_true, dite_false, Int.reduceEq, Int.reduceLT, Int.reduceLE]
  have hBX := fun X => (Ext.refl.app (X := X)).cells (hE2.cells hB)
  have ldk := fun X => ((hE2.sl hL).app X).loadCell encL_len hlt (j := 0) (by decide)
  rw [encL_0] at ldk
  have ixk := fun c (kk : IntKind) (H1 : Heap) => (hE2.sl hL).idx (c := c) (k := kk) (H1 := H1) hlt
  have hlm : j < (w.map stopOf).length := by simpa using hlt2
  have ldw := fun X => ((hE2.sl sw).app X).loadCell enc3_len hlm (j := 0) (by decide)
  have hgw : gt (w.map stopOf) j = stopOf w[j] := by rw [gt_lt hlm, List.getElem_map]
  rw [hgw] at ldw
  simp only [enc3, stopOf, List.getElem?_cons_zero] at ldw
  have ixw := fun c (kk : IntKind) (H1 : Heap) => (hE2.sl sw).idx (c := c) (k := kk) (H1 := H1) hlm
  rw [List.length_map] at ixw
  have w3 : IntKind.i64.wrap ((j : Int) + 1) = ((j + 1 : Nat) : Int) := wrap_nat (by omega)
  have hst := hasL_take (a := (gt L k).id) hlt2
  cases hh : hasL (w.take j) (gt L k).id with
  | true =>
    rw [hh] at k23 hst
    simp only [n6, r6, k5, k11, k18, k19, k20, k21, k23, k24, hlt2, hBX, netV_len, netV_0, netV_1, w3, SB, Nat.reduceLT, callee, aOp, ne_eq, Nat.reduceEqDiff, aBin, aUn, if_true, if_false, reduceCtorEq, frame0, place, notTuple, Nat.reduceAdd, Nat.reduceLeDiff, resVal, dite_true, dite_false, Int.reduceEq, Int.reduceLT, Int.reduceLE]
    exact hM (j + 1) _ _ ⟨by omega, (by simp only [k5, FB, Nat.reduceEqDiff]), (by simp only [k11, FB, Nat.reduceEqDiff]), (by simp only [k18, FB, Nat.reduceEqDiff]), (by simp only [k19, FB, Nat.reduceEqDiff]), (by simp only [k20, FB, Nat.reduceEqDiff]), (by simp only [k21, FB, Nat.reduceEqDiff]), by rw [hst]; exact (by simp only [Bool.true_or, FB, Nat.reduceEqDiff]), (by simp only [FB, Nat.reduceEqDiff]), hE2.app⟩ (by omega)
  | false =>
    rw [hh] at k23 hst
    by_cases hid : w[j].1.id = (gt L k).id
    · simp only [n6, r6, k5, k11, k18, k19, k20, k21, k23, k24, hlt2, hBX, netV_len, netV_0, netV_1, ldk, ixk, ldw, ixw, w3, eq_true hid, SB, Nat.reduceLT, callee, aOp, ne_eq, Nat.reduceEqDiff, aBin, aUn, if_true, if_false, reduceCtorEq, frame0, place, notTuple, Nat.reduceAdd, Nat.reduceLeDiff, resVal, dite_true, dite_false, Int.reduceEq, Int.reduceLT, Int.reduceLE]
      exact hM (j + 1) _ _ ⟨by omega, (by simp only [k5, FB, Nat.reduceEqDiff]), (by simp only [k11, FB, Nat.reduceEqDiff]), (by simp only [k18, FB, Nat.reduceEqDiff]), (by simp only [k19, FB, Nat.reduceEqDiff]), (by simp only [k20, FB, Nat.reduceEqDiff]), (by simp only [k21, FB, Nat.reduceEqDiff]), by rw [hst, decide_eq_true hid]; exact (by simp only [Bool.or_true, FB, Nat.reduceEqDiff]), (by simp only [FB, Nat.reduceEqDiff]), hE2.app⟩ (by omega)
    · simp only [n6, r6, k5, k11, k18, k19, k20, k21, k23, k24, hlt2, hBX, netV_len, netV_0, netV_1, ldk, ixk, ldw, ixw, w3, eq_false hid, SB, Nat.reduceLT, callee, aOp, ne_eq, Nat.reduceEqDiff, aBin, aUn, if_true, if_false, reduceCtorEq, frame0, place, notTuple, Nat.reduceAdd, Nat.reduceLeDiff, resVal, dite_true, dite_false, Int.reduceEq, Int.reduceLT, Int.reduceLE]
      exact hM (j + 1) _ _ ⟨by omega, (by simp only [k5, FB, Nat.reduceEqDiff]), (by simp only [k11, FB, Nat.reduceEqDiff]), (by simp only [k18, FB, Nat.reduceEqDiff]), (by simp only [k19, FB, Nat.reduceEqDiff]), (by simp only [k20, FB, Nat.reduceEqDiff]), (by simp only [k21, FB, Nat.reduceEqDiff]), by rw [hst, decide_eq_false hid]; exact (by simp only [Bool.or_false, FB, Nat.reduceEqDiff]), (by simp only [FB, Nat.reduceEqDiff]), hE2.app⟩ (by omega)

theorem less_vals {L : List Leg} {k : Nat} (hlt : k < L.length) : ∀ l ∈ L.take k ++ L.drop (k + 1), l ∈ L := by
  intro l hl
  rcases List.mem_append.1 hl with h | h
  · exact List.mem_of_mem_take h
  · exact List.mem_of_mem_drop h
theorem validN_less {P : List Int} {L : List Leg} {k : Nat} (h : validN P L = 0) (hlt : k < L.length) : validN P (L.take k ++ L.drop (k + 1)) = 0 := by
  obtain ⟨h1, h2, h3, h4⟩ := validN_0 h
  rw [legs_iff] at h4
  have hsub : (L.take k ++ L.drop (k + 1)).Sublist L := by
    have e : L = L.take k ++ L.drop k := (List.take_append_drop k L).symm
    have h2 : (L.drop (k + 1)).Sublist (L.drop k) := by
      rw [List.drop_eq_getElem_cons hlt]; exact List.sublist_cons_self _ _
    have h3 := List.Sublist.append (List.Sublist.refl (L.take k)) h2
    rwa [List.take_append_drop] at h3
  exact validN_of h1 (Nat.le_trans hsub.length_le h2) h3 (legs_iff.2 ⟨fun l hl => h4.1 l (hsub.mem hl), h4.2.sublist hsub⟩)

theorem less_in {L : List Leg} {k : Nat} (hlt : k < L.length) {l : Leg} (hl : l ∈ L) (hne : l.id ≠ (gt L k).id) : l ∈ L.take k ++ L.drop (k + 1) := by
  have e : L = L.take k ++ L[k] :: L.drop (k + 1) := by rw [← List.drop_eq_getElem_cons hlt, List.take_append_drop]
  rw [e] at hl
  rcases List.mem_append.1 hl with h | h
  · exact List.mem_append_left _ h
  · rcases List.mem_cons.1 h with rfl | h
    · exact absurd (by rw [gt_lt hlt]) hne
    · exact List.mem_append_right _ h
theorem no_leg {L : List Leg} {k : Nat} (hlt : k < L.length) {w : List (Leg × Int)} {p t q u : Int} (hw : IsWay L p t w q u) (h : ¬ hasL w (gt L k).id = true) : ∀ x ∈ w, x.1 ∈ L.take k ++ L.drop (k + 1) := by
  intro x hx
  refine less_in hlt (hw.mem x hx) fun e => h ?_
  unfold hasL
  rw [List.any_eq_true]
  exact ⟨x, hx, by rw [decide_eq_true e]⟩
theorem without_main [OB] {pp pl qp ql : Option Addr} {P : List Int} {L : List Leg} {cp cl k cql : Nat} {p q t : Int} {H G : Heap} {fr : Nat → Value}
    (hn : NetIn H pp pl P L) (hcl : CapOk 8 cl L.length) (hf : fitsP P L p q t) (hlt : k < L.length) (hE : Chg [] H G) (hB : hget G H.length = .cells false (netV pp P.length cp pl L.length cl)) (hM0 : hget G (H.length + 1) = .cells false (netV qp P.length (loose 1) ql (L.length - 1) cql)) (hnM : NetIn G qp ql P (L.take k ++ L.drop (k + 1)))
    (f1 : fr 1 = .int .i64 p) (f2 : fr 2 = .int .i64 q) (f3 : fr 3 = .int .i64 t) (f5 : fr 5 = .pointer (some ⟨H.length, 0, none⟩)) (f11 : fr 11 = .int .i64 (k : Int)) (f12 : fr 12 = .pointer (some ⟨H.length + 1, 0, none⟩)) (f13 : fr 13 = .int .i64 0) :
    Ret E a6 H.length [.code rest6] fr (G ++ []) fun v' _ => v' = .bool true := by
  have he := fits_err hf
  obtain ⟨_, hv, hp, hq, ht0, ht1⟩ := id hf
  obtain ⟨v1, v2, v3, v4⟩ := validN_0 hv
  have hno := valid_net hv
  have hvM := validN_less hv hlt
  have hl := hE.len
  have hBX := fun X => (Ext.refl.app (X := X)).cells hB
  have hMX := fun X => (Ext.refl.app (X := X)).cells hM0
  have e1 : (L.take k).length = k := by rw [List.length_take]; omega
  have e2 : (L.drop (k + 1)).length = L.length - (k + 1) := by rw [List.length_drop]
  have eM : (L.take k ++ L.drop (k + 1)).length = L.length - 1 := by rw [List.length_append, e1, e2]; omega
  have hsi := fun X (mp : Bool) (lim : Nat) (Q : Value → Heap → Prop) => sameints_ok (mp := mp) (lim := lim) (Q := Q) (ca := loose 1) (cb := cp) (hnM.sp.app X) ((hE.ext.sl hn.sp).app X) (by have := hn.np; omega)
  simp only [decide_true] at hsi
  have w1 : IntKind.i64.wrap ((k : Int) + 1) = ((k + 1 : Nat) : Int) := wrap_nat (by omega)
  have hsG := hE.ext.sl hn.sl
  obtain ⟨z1, k1, x1, s1, _, _, _⟩ := slice_cut (vlo := none) (vhi := some (.int .i64 (k : Int))) (lo := 0) (hi := k) hsG hcl encL_len (fun cap hcap => by rw [bv_010 (by omega) (by omega), Int.toNat_natCast]) (Nat.zero_le _) (by omega) (by omega)
  obtain ⟨z2, k2, x2, s2, _, _, _⟩ := slice_cut (vlo := some (.int .i64 ((k + 1 : Nat) : Int))) (vhi := none) (lo := k + 1) (hi := L.length) hsG hcl encL_len (fun cap hcap => by rw [bv_100 (by omega) (by omega), Int.toNat_natCast]) (by omega) (Nat.le_refl _) (by omega)
  rw [List.drop_zero] at s1
  rw [List.take_length] at s2
  simp only [Nat.sub_zero] at x1
  obtain ⟨qa, ka, xa, qb, kb, y0, y1, y2, ca1, ca2, sY⟩ := cut_append (lim := H.length) (c1 := k1) (c2 := k2) s1 s2 (by omega) hl
  rw [e1] at ca1 ca2
  rw [e2] at ca2
  have hsm := fun (mp : Bool) (lim : Nat) (Q : Value → Heap → Prop) => samelegs_ok (mp := mp) (lim := lim) (Q := Q) (ca := cql) (cb := kb) (hnM.sl.app [y0, y1, y2]) sY (by rw [eM]; omega)
  rw [List.length_append, e1, e2] at hsm
  simp only [decide_true] at hsm
  have ek : k + (L.length - (k + 1)) = L.length - 1 := by omega
  rw [ek] at ca2 hsm
  rw [rest6_cut]
  simp only [rest6, c6, hdC, tlC]
  simp only [n6, r6, f1, f2, f3, f5, f11, f12, f13, hBX, hMX, netV_len, netV_0, netV_1, take_all, hsi, w1, x1, x2, ca1, ca2, hsm, SB, Nat.reduceLT, callee, aOp, ne_eq, Nat.reduceEqDiff, aBin, aUn, if_true, if_false, reduceCtorEq, frame0, place, notTuple, Nat.reduceAdd, Nat.reduceLeDiff, resVal, dite_true, dite_false, Int.reduceEq, Int.reduceLT, Int.reduceLE]
  -- the four calls
  have hM : ∀ l ∈ L.take k ++ L.drop (k + 1), l ∈ L := less_vals hlt
  have hidM := ids_inj (legs_ids (validN_0 hvM).2.2.2)
  have epp : errA P L p p t = 0 := by unfold errA; rw [if_neg (by rw [hv]; decide), if_pos ⟨hp, hp, ht0, ht1⟩]
  have eMp : errA P (L.take k ++ L.drop (k + 1)) p p t = 0 := by unfold errA; rw [if_neg (by rw [hvM]; decide), if_pos ⟨hp, hp, ht0, ht1⟩]
  have eMq : errA P (L.take k ++ L.drop (k + 1)) p q t = 0 := by unfold errA; rw [if_neg (by rw [hvM]; decide), if_pos ⟨hp, hq, ht0, ht1⟩]
  refine Arrive_ok ((hn.ext hE.ext).app _) (by simp; omega) (fun _ h => absurd epp h) fun H1 q1 T1 _ c1 hT1 o1 l1 => ?_
  replace c1 := c1.pre
  have g1 := hE.trans c1
  have b1 := c1.cells hB (by simp)
  have m1 := c1.cells hM0 (by simp)
  have b1X := fun X => (Ext.refl.app (X := X)).cells b1
  have m1X := fun X => (Ext.refl.app (X := X)).cells m1
  have t1 := o1.sl encI_len
  refine Ret_pad ?_
  simp only [n6, r6, f1, f2, f3, f5, f11, f12, f13, b1X, m1X, netV_len, netV_0, netV_1, take_all, SB, Nat.reduceLT, callee, aOp, ne_eq, Nat.reduceEqDiff, aBin, aUn, if_true, if_false, reduceCtorEq, frame0, place, notTuple, Nat.reduceAdd, Nat.reduceLeDiff, resVal, dite_true, dite_false, Int.reduceEq, Int.reduceLT, Int.reduceLE]
  rw [List.append_nil]
  have hA := fun Q => Arrive_ok (Q := Q) (lim := H.length) (cp := loose 1) (cl := cql) (p := p) (ready := t) (hnM.ext c1.ext) g1.len
  rw [eM] at hA
  refine hA _ (fun _ h => absurd eMp h) fun H2 q2 T2 _ c2 hT2 o2 l2 => ?_
  have g2 := g1.trans c2
  have b2 := c2.cells b1 (by simp)
  have m2 := c2.cells m1 (by simp)
  have b2X := fun X => (Ext.refl.app (X := X)).cells b2
  have m2X := fun X => (Ext.refl.app (X := X)).cells m2
  have t2 := o2.sl encI_len
  replace t1 := c2.ext.sl t1
  refine Ret_pad ?_
  simp only [n6, r6, f1, f2, f3, f5, f11, f12, f13, b2X, m2X, netV_len, netV_0, netV_1, take_all, SB, Nat.reduceLT, callee, aOp, ne_eq, Nat.reduceEqDiff, aBin, aUn, if_true, if_false, reduceCtorEq, frame0, place, notTuple, Nat.reduceAdd, Nat.reduceLeDiff, resVal, dite_true, dite_false, Int.reduceEq, Int.reduceLT, Int.reduceLE]
  rw [List.append_nil]
  have hcmp : ∀ i, i < P.length → ¬ (0 ≤ gt T2 i ∧ (gt T1 i < 0 ∨ gt T2 i < gt T1 i)) := by
    rintro i hi ⟨k1, k2⟩
    have hx := gt_mem hi
    have ix : posN P (gt P i) = i := v3.idx hi
    have a1 := hT1.2 _ hx
    have a2 := hT2.2 _ hx
    rw [ix, ← gt_getD (by omega)] at a1 a2
    have := IsArr.less a1 a2 hM hno.fine ht0 k1
    omega
  have hsL := hn.sl
  refine Way_ok (hn.ext g2.ext) g2.len (fun _ h => absurd he h) (fun H3 _ hva c3 => ?_) (fun H3 v w pw cw _ c3 hv0 hva hw hwl o3 => ?_)
  · have g3 := g2.trans c3
    have b3 := c3.cells b2 (by simp)
    have m3 := c3.cells m2 (by simp)
    have m3X := fun X => (Ext.refl.app (X := X)).cells m3
    replace t1 := c3.ext.sl t1
    replace t2 := c3.ext.sl t2
    have hnM3 := ((hnM.ext c1.ext).ext c2.ext).ext c3.ext
    refine Ret_pad ?_
    simp only [n6, r6, f1, f2, f3, f5, f11, f12, f13, m3X, netV_len, netV_0, netV_1, take_all, SB, Nat.reduceLT, callee, aOp, ne_eq, Nat.reduceEqDiff, aBin, aUn, if_true, if_false, reduceCtorEq, frame0, place, notTuple, Nat.reduceAdd, Nat.reduceLeDiff, resVal, dite_true, dite_false, Int.reduceEq, Int.reduceLT, Int.reduceLE]
    rw [List.append_nil]
    have hW := fun Q => Way_ok (Q := Q) (lim := H.length) (cp := loose 1) (cl := cql) (p := p) (q := q) (ready := t) hnM3 g3.len
    rw [eM] at hW
    refine hW _ (fun _ h => absurd eMq h) (fun H4 _ hva' c4 => ?_) (fun H4 v' w' pw' cw' _ c4 hv0' hva' hw' hwl' o4 => ?_)
    · refine Ret_pad ?_
      simp only [n6, r6, SB, Nat.reduceLT, callee, aOp, ne_eq, Nat.reduceEqDiff, aBin, aUn, if_true, if_false, reduceCtorEq, frame0, place, notTuple, Nat.reduceAdd, Nat.reduceLeDiff, resVal, dite_true, dite_false, Int.reduceEq, Int.reduceLT, Int.reduceLE]
      exact without_tail (w := []) (w' := []) (cw := 0) (cw' := 0) (e := 6) (f := 6) (pw := none) (pw' := none) (c4.cells b3 (by simp)) ((g3.trans c4).ext.sl hsL) hlt (g3.trans c4).len (c4.ext.sl t1) (c4.ext.sl t2) l1 l2 v1 (show Sl _ enc3 3 none [] from rfl) (show Sl _ enc3 3 none [] from rfl) (by decide) hcmp (.inr ⟨rfl, rfl⟩) (by simp only [f5, FB, Nat.reduceEqDiff]) (by simp only [f11, FB, Nat.reduceEqDiff]) (by simp only [FB, Nat.reduceEqDiff]) (by simp only [FB, Nat.reduceEqDiff]) (by simp only [FB, Nat.reduceEqDiff]) (by simp only [List.length_nil, FB, Nat.reduceEqDiff]) (by simp only [FB, Nat.reduceEqDiff]) (by simp only [List.length_nil, FB, Nat.reduceEqDiff]) (by simp only [FB, Nat.reduceEqDiff])
    · exfalso
      have := (IsArr.less hva hva' hM hno.fine ht0 hv0').1
      omega
  · have g3 := g2.trans c3
    have b3 := c3.cells b2 (by simp)
    have m3 := c3.cells m2 (by simp)
    have m3X := fun X => (Ext.refl.app (X := X)).cells m3
    replace t1 := c3.ext.sl t1
    replace t2 := c3.ext.sl t2
    have sw := o3.sl enc3_len
    have hnM3 := ((hnM.ext c1.ext).ext c2.ext).ext c3.ext
    refine Ret_pad ?_
    simp only [n6, r6, f1, f2, f3, f5, f11, f12, f13, m3X, netV_len, netV_0, netV_1, take_all, SB, Nat.reduceLT, callee, aOp, ne_eq, Nat.reduceEqDiff, aBin, aUn, if_true, if_false, reduceCtorEq, frame0, place, notTuple, Nat.reduceAdd, Nat.reduceLeDiff, resVal, dite_true, dite_false, Int.reduceEq, Int.reduceLT, Int.reduceLE]
    rw [List.append_nil]
    have hW := fun Q => Way_ok (Q := Q) (lim := H.length) (cp := loose 1) (cl := cql) (p := p) (q := q) (ready := t) hnM3 g3.len
    rw [eM] at hW
    refine hW _ (fun _ h => absurd eMq h) (fun H4 _ hva' c4 => ?_) (fun H4 v' w' pw' cw' _ c4 hv0' hva' hw' hwl' o4 => ?_)
    · refine Ret_pad ?_
      simp only [n6, r6, SB, Nat.reduceLT, callee, aOp, ne_eq, Nat.reduceEqDiff, aBin, aUn, if_true, if_false, reduceCtorEq, frame0, place, notTuple, Nat.reduceAdd, Nat.reduceLeDiff, resVal, dite_true, dite_false, Int.reduceEq, Int.reduceLT, Int.reduceLE]
      refine without_tail (w := w) (w' := []) (cw := cw) (cw' := 0) (e := 0) (f := 6) (pw := pw) (pw' := none) (c4.cells b3 (by simp)) ((g3.trans c4).ext.sl hsL) hlt (g3.trans c4).len (c4.ext.sl t1) (c4.ext.sl t2) l1 l2 v1 (c4.ext.sl sw) (show Sl _ enc3 3 none [] from rfl) hwl hcmp (.inl ?_) (by simp only [f5, FB, Nat.reduceEqDiff]) (by simp only [f11, FB, Nat.reduceEqDiff]) (by simp only [FB, Nat.reduceEqDiff]) (by simp only [FB, Nat.reduceEqDiff]) (by simp only [FB, Nat.reduceEqDiff]) (by simp only [FB, Nat.reduceEqDiff]) (by simp only [FB, Nat.reduceEqDiff]) (by simp only [List.length_nil, FB, Nat.reduceEqDiff]) (by simp only [FB, Nat.reduceEqDiff])
      apply Decidable.byContradiction; intro hc
      have := (best_less hM hno.fine hidM ht0 hva hv0 hw (no_leg hlt hw.way hc) hva').1
      omega
    · refine Ret_pad ?_
      simp only [n6, r6, SB, Nat.reduceLT, callee, aOp, ne_eq, Nat.reduceEqDiff, aBin, aUn, if_true, if_false, reduceCtorEq, frame0, place, notTuple, Nat.reduceAdd, Nat.reduceLeDiff, resVal, dite_true, dite_false, Int.reduceEq, Int.reduceLT, Int.reduceLE]
      refine without_tail (w := w) (w' := w') (cw := cw) (cw' := cw') (e := 0) (f := 0) (pw := pw) (pw' := pw') (c4.cells b3 (by simp)) ((g3.trans c4).ext.sl hsL) hlt (g3.trans c4).len (c4.ext.sl t1) (c4.ext.sl t2) l1 l2 v1 (c4.ext.sl sw) (o4.sl enc3_len) hwl hcmp ?_ (by simp only [f5, FB, Nat.reduceEqDiff]) (by simp only [f11, FB, Nat.reduceEqDiff]) (by simp only [FB, Nat.reduceEqDiff]) (by simp only [FB, Nat.reduceEqDiff]) (by simp only [FB, Nat.reduceEqDiff]) (by simp only [FB, Nat.reduceEqDiff]) (by simp only [FB, Nat.reduceEqDiff]) (by simp only [FB, Nat.reduceEqDiff]) (by simp only [FB, Nat.reduceEqDiff])
      by_cases hc : hasL w (gt L k).id = true
      · exact .inl hc
      · obtain ⟨e, hu⟩ := best_less hM hno.fine hidM ht0 hva hv0 hw (no_leg hlt hw.way hc) hva'
        exact .inr ⟨rfl, by rw [hu w' hw']⟩

theorem RouteWithout_ok [OB] {mp : Bool} {lim : Nat} {pp pl : Option Addr} {P : List Int} {L : List Leg} {cp cl : Nat} {p q t at' : Int} {H : Heap} {Q : Value → Heap → Prop} (hn : NetIn H pp pl P L) (hcl : CapOk 8 cl L.length) (hA : OB.on 21 = true) :
    CallR E mp lim 6 [.agg (netV pp P.length cp pl L.length cl).toArray, .int .i64 p, .int .i64 q, .int .i64 t, .int .i64 at'] H Q = Q (.bool true) H := by
  refine pc (by decide) e6 rfl rfl ?_
  rw [b6, c6_cut]
  simp only [c6, hdC, tlC]
  have hft := fun X (mp : Bool) (lim : Nat) (Q : Value → Heap → Prop) => fits_ok (mp := mp) (lim := lim) (cp := cp) (cl := cl) (Q := Q) (a := p) (b := q) (t := t) (hn.app X)
  by_cases hf : fitsP P L p q t
  case neg => simp only [n6, r6, netV_len, netV_0, netV_1, awake33_on hA, hft, take_all, decide_eq_false hf, SB, Nat.reduceLT, callee, aOp, ne_eq, Nat.reduceEqDiff, aBin, aUn, if_true, if_false, reduceCtorEq, frame0, place, notTuple, Nat.reduceAdd, Nat.reduceLeDiff, resVal, dite_true, dite_false, Int.reduceEq, Int.reduceLT, Int.reduceLE]
  have he := fits_err hf
  obtain ⟨_, hv, hp, hq, ht0, ht1⟩ := id hf
  obtain ⟨v1, v2, v3, v4⟩ := validN_0 hv
  have hno := valid_net hv
  by_cases hL0 : L.length = 0
  · have hz : (L.length : Int) = 0 := by omega
    simp only [n6, r6, netV_len, netV_0, netV_1, awake33_on hA, hft, take_all, decide_eq_true hf, eq_true hz, SB, Nat.reduceLT, callee, aOp, ne_eq, Nat.reduceEqDiff, aBin, aUn, if_true, if_false, reduceCtorEq, frame0, place, notTuple, Nat.reduceAdd, Nat.reduceLeDiff, resVal, dite_true, dite_false, Int.reduceEq, Int.reduceLT, Int.reduceLE]
  have hz : ¬ (L.length : Int) = 0 := by omega
  have hpk := fun (H : Heap) (mp : Bool) (lim : Nat) (Q : Value → Heap → Prop) => pick_ok (mp := mp) (lim := lim) (a := at') (n := (L.length : Int)) (H := H) (Q := Q) (by omega)
  have hpr := pickN_range (a := at') (n := (L.length : Int)) (by omega)
  obtain ⟨k, hk⟩ : ∃ k : Nat, pickN at' (L.length : Int) = (k : Int) := ⟨(pickN at' (L.length : Int)).toNat, by omega⟩
  rw [hk] at hpk hpr
  have hlt : k < L.length := by omega
  have ldk := fun X => (hn.sl.app X).loadCell encL_len hlt (j := 0) (by decide)
  rw [encL_0] at ldk
  have ixk := fun c (kk : IntKind) (H1 : Heap) => hn.sl.idx (c := c) (k := kk) (H1 := H1) hlt
  simp only [n6, r6, netV_len, netV_0, netV_1, awake33_on hA, hft, take_all, decide_eq_true hf, eq_false hz, hpk, ldk, ixk, SB, Nat.reduceLT, callee, aOp, ne_eq, Nat.reduceEqDiff, aBin, aUn, if_true, if_false, reduceCtorEq, frame0, place, notTuple, Nat.reduceAdd, Nat.reduceLeDiff, resVal, dite_true, dite_false, Int.reduceEq, Int.reduceLT, Int.reduceLE]
  refine Without_ok (hn.app _) hcl (List.ne_nil_of_mem hp) ?hlim hv ⟨_, gt_mem hlt, rfl⟩ fun H1 qp ql cql hC1 hOp hOl => ?_
  case hlim => simp
  have hfi : L.findIdx (fun l => l.id = (gt L k).id) = k := findIdx_at hlt rfl fun j hj e => by
    have h1 := legs_ids v4
    rw [List.pairwise_iff_getElem] at h1
    rw [gt_lt (by omega), gt_lt hlt] at e
    exact h1 j k (by omega) hlt hj e
  rw [hfi] at hOl
  have hl1 := hC1.len
  simp only [List.length_append, List.length_cons, List.length_nil] at hl1
  have z1 : ∀ c, (List.set H1 (H.length + 1) .dead ++ []).set (H.length + 1) c = H1.set (H.length + 1) c := fun c => by rw [List.append_nil, List.set_set]
  have z2 : ∀ c, hget (H1.set (H.length + 1) c) (H.length + 1) = c := fun c => hget_set_eq (by omega)
  have z3 : ∀ c c', (H1.set (H.length + 1) c).set (H.length + 1) c' = H1.set (H.length + 1) c' := fun c c' => by rw [List.set_set]
  refine Ret_pad ?_
  simp only [n6, r6, z1, z2, z3, netV_len, setAll_full, show H.length ≤ H.length + 1 by omega, SB, Nat.reduceLT, callee, aOp, ne_eq, Nat.reduceEqDiff, aBin, aUn, if_true, if_false, reduceCtorEq, frame0, place, notTuple, Nat.reduceAdd, Nat.reduceLeDiff, resVal, dite_true, dite_false, Int.reduceEq, Int.reduceLT, Int.reduceLE]
  refine Ret_pad ?_
  have hEH : Chg [] H H1 := hC1.pre
  have hm : Mut H1 (H1.set (H.length + 1) (.cells false (netV qp P.length (loose 1) ql (L.length - 1) cql))) (H.length + 1) := ⟨by simp, fun j hj => hget_set_ne hj⟩
  simp only [List.length_append, List.length_cons, List.length_nil] at hOp hOl
  refine without_main (k := k) (qp := qp) (ql := ql) (cql := cql) hn hcl hf hlt (hEH.mut hm (.inr (by omega))) (hm.cells (hC1.cells hget_new0 (by simp)) (by omega)) (hget_set_eq (by omega)) ⟨hm.sl (hOp.sl encI_len) fun a e _ => by have := (hOp.block e).1; omega, hm.sl (hOl.sl encL_len) fun a e _ => by have := (hOl.block e).1; omega, by omega, ?_, fun l hl => hn.bys l (less_vals hlt l hl)⟩ (by simp only [FB, Nat.reduceEqDiff]) (by simp only [FB, Nat.reduceEqDiff]) (by simp only [FB, Nat.reduceEqDiff]) (by simp only [FB, Nat.reduceEqDiff]) (by simp only [FB, Nat.reduceEqDiff]) (by simp only [FB, Nat.reduceEqDiff]) (by simp only [FB, Nat.reduceEqDiff])
  rw [List.length_append, List.length_take, List.length_drop]; omega
end Go.Proofs.Ytcmhnincbkbncaa.Fn
