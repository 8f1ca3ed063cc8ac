/-
  Joined texts, 8 of 9. A part of the claim that the last text states.
-/
import Derived.Test.YtcmhnincbkbncaaPU7
namespace Go.Proofs.Ytcmhnincbkbncaa.Fn
open Go.AM Go.AM.Sym Go.Net
set_option maxRecDepth 100000
set_option linter.unusedVariables false
set_option linter.unusedSimpArgs false
set_option maxHeartbeats 4000000

theorem sliceV_nil {e : Nat} : sliceV e (.slice none 0 0) none (some (.int .i64 0)) none = some (.slice none 0 0) := by
  unfold sliceV aSliceS
  have h : ¬ 0 = loose e := by unfold loose; omega
  simp only [if_neg h, bounds_V, Option.map_some, Option.map_none, unV]
  rw [bv_010 (by decide) (by decide)]
  simp
theorem sliceV_none {e b n : Nat} : sliceV e (.slice (some ⟨b, 0, none⟩) n (loose e)) none (some (.int .i64 0)) none = some (.slice (some ⟨b, 0, none⟩) 0 (loose e)) := by
  unfold sliceV aSliceS
  simp only [if_true, bounds_V, Option.map_some, Option.map_none, unV]
  rw [bv_010 (by decide) (by omega)]
  simp [addr_add]
theorem grow_ok [OB] {lim n : Nat} {H : Heap} {Q : Value → Heap → Prop} (hn : n < 2 ^ 30) (hlim : lim ≤ H.length)
    (h0 : n = 0 → ∀ X, Q (.slice none 0 0) (H ++ X)) (h1 : n ≠ 0 → ∀ z, Q (.slice (some ⟨H.length, 0, none⟩) 0 (loose 8)) (H ++ [.cells false z])) :
    CallR E false lim 104 [.slice none 0 0, .int .i64 (n : Int)] H Q := by
  refine runs' (by decide) e104 rfl ?_
  rw [b104, c104]
  have hc : ¬ (n : Int) < 0 := by omega
  have w1 : IntKind.i64.wrap (n : Int) = (n : Int) := wrap_id (by omega) (by omega)
  have w0 : IntKind.i64.wrap 0 = 0 := by decide
  by_cases hz : n = 0
  · subst hz
    simp only [n104, r104, w0, Int.sub_self, show (0 : Nat) < 2 ^ 62 by decide, SB, Nat.reduceLT, callee, aOp, ne_eq, Nat.reduceEqDiff, aBin, aUn, if_true, if_false, reduceCtorEq, frame0, place, notTuple, Nat.reduceAdd, Nat.reduceLeDiff, resVal, dite_true, dite_false, Int.reduceEq, Int.reduceLT, Int.reduceLE]
    exact h0 rfl _
  · have hp : 0 < n := by omega
    simp only [n104, r104, hc, w1, w0, Int.sub_self, Int.sub_zero, hp, show (0 : Nat) < 2 ^ 62 by decide, sliceV_nil, sliceV_none, show 0 < (n : Int) ∧ (n : Int) * 64 ≤ 2 ^ 45 ∧ (n : Int) < 2 ^ 62 by omega, SB, Nat.reduceLT, callee, aOp, ne_eq, Nat.reduceEqDiff, aBin, aUn, if_true, if_false, reduceCtorEq, frame0, place, notTuple, Nat.reduceAdd, Nat.reduceLeDiff, resVal, dite_true, dite_false, Int.reduceEq, Int.reduceLT, Int.reduceLE]
    exact h1 hz _

/-- A slice of one's own that may have been made with room. -/
def OwnZ {α : Type} (lim : Nat) (G : Heap) (enc : α → List Value) (e : Nat) (p : Option Addr) (cap : Nat) (l : List α) : Prop :=
  Own lim G enc e p cap l ∨ (l = [] ∧ cap = loose e ∧ ∃ R z, p = some ⟨R, 0, none⟩ ∧ hget G R = .cells false z ∧ lim ≤ R)
section
variable {α : Type} {lim lim' e bytes cap : Nat} {G : Heap} {enc : α → List Value} {p : Option Addr} {l : List α}
theorem OwnZ.sl (h : OwnZ lim G enc e p cap l) (he : ∀ x, (enc x).length = e) : Sl G enc e p l := by
  rcases h with h | ⟨rfl, _, R, z, rfl, h, _⟩
  · exact h.sl he
  · exact ⟨rfl, fun hh => absurd rfl hh⟩
theorem OwnZ.app (h : OwnZ lim G enc e p cap l) (X : Heap) : OwnZ lim (G ++ X) enc e p cap l := by
  rcases h with h | ⟨h1, h2, R, z, h3, h4, h5⟩
  · exact .inl (h.app X)
  · exact .inr ⟨h1, h2, R, z, h3, (Ext.refl.app).cells h4, h5⟩
theorem OwnZ.le (h : OwnZ lim G enc e p cap l) (hl : lim' ≤ lim) : OwnZ lim' G enc e p cap l := by
  rcases h with h | ⟨h1, h2, R, z, h3, h4, h5⟩
  · exact .inl (h.le hl)
  · exact .inr ⟨h1, h2, R, z, h3, h4, by omega⟩
theorem OwnZ.block (h : OwnZ lim G enc e p cap l) {a : Addr} (ha : p = some a) : lim ≤ a.block ∧ a.block < G.length := by
  rcases h with h | ⟨h1, h2, R, z, h3, h4, h5⟩
  · exact h.block ha
  · rw [h3] at ha; cases ha; exact ⟨h5, hget_alive h4⟩
theorem OwnZ.chg {A : List Nat} {H' : Heap} (h : OwnZ lim G enc e p cap l) (hc : Chg A G H') (hp : ∀ a, p = some a → a.block ∉ A) : OwnZ lim H' enc e p cap l := by
  rcases h with h | ⟨h1, h2, R, z, h3, h4, h5⟩
  · exact .inl (h.chg hc hp)
  · exact .inr ⟨h1, h2, R, z, h3, hc.cells h4 (hp _ h3), h5⟩
theorem OwnZ.capOk (h : OwnZ lim G enc e p cap l) : CapOk e cap l.length := by
  rcases h with h | ⟨rfl, rfl, R, z, h3, h4, h5⟩
  · exact h.capOk
  · exact .inl rfl
theorem OwnZ.more (h : OwnZ lim G enc e p cap l) (hll : lim' ≤ lim) (he : ∀ x, (enc x).length = e) (he0 : e ≠ 0) (m : List α) (hb : (l.length + m.length) * bytes ≤ maxBytes) (hn : l.length + m.length < 2 ^ 61) (hlG : lim ≤ G.length)
    (X : Heap) {x : Value} {str : Bool} (h1 : firstCells (G ++ X) e str x = some (m.flatMap enc)) (h2 : lenOf x = some m.length) :
    ∃ G2 p' cap', aAppend lim' none e bytes str (.slice p l.length cap) x (G ++ X) = some (.slice p' (l.length + m.length) cap', G2 ++ []) ∧ OwnZ lim (G2 ++ []) enc e p' cap' (l ++ m) ∧ (∀ A H0, H0.length ≤ lim → Chg A H0 G → Chg A H0 (G2 ++ [])) ∧
      (∀ j, j < G.length → (∀ a, p = some a → j ≠ a.block) → hget (G2 ++ []) j = hget G j) ∧ G.length ≤ G2.length := by
  rcases h with h | ⟨rfl, rfl, R, z, rfl, h4, h5⟩
  · obtain ⟨G2, p', cap', k1, k2, k3⟩ := h.more (lim' := lim') (bytes := bytes) hll he he0 m hb hn hlG X h1 h2
    exact ⟨G2, p', cap', k1, .inl k2, k3⟩
  · have hRl := hget_alive h4
    have hR' : hget (G ++ X) R = .cells false z := by rw [hget_old hRl]; exact h4
    by_cases hm : m = []
    · subst hm
      refine ⟨G ++ X, some ⟨R, 0, none⟩, loose e, ?_, by rw [List.append_nil]; exact .inr ⟨rfl, rfl, R, z, rfl, hR', h5⟩, fun A H0 q1 q2 => by rw [List.append_nil]; exact q2.app, fun j hj _ => by rw [List.append_nil, hget_old hj], by simp⟩
      simp only [List.length_nil, Nat.add_zero] at hb hn h2 ⊢
      simp only [aAppend, h1, h2, Nat.add_zero, if_true, List.append_nil]
      rw [if_neg (by unfold loose; omega)]
    · have hm0 : ¬ m.length = 0 := fun q => hm (List.length_eq_zero_iff.1 q)
      have hold : AM.loadCells (G ++ X) ⟨R, 0, none⟩ (0 * e) = some [] := by
        simp only [loadCells_lit, hR', Nat.zero_mul, Nat.add_zero, Nat.zero_le, if_true, List.take_zero]
      have hmt : Mut G (G.set R .dead) R := ⟨by simp, fun j hj => hget_set_ne hj⟩
      refine ⟨G.set R .dead ++ (X ++ [.cells false (m.flatMap enc)]), some ⟨(G ++ X).length, 0, none⟩, loose e, ?_, .inl ?_, fun A H0 q1 q2 => by rw [List.append_nil]; exact (q2.mut hmt (.inr (by omega))).app, fun j hj hp => by
        rw [List.append_nil, hget_old (by simpa using hj)]; exact hget_set_ne (hp _ rfl), by simp⟩
      · simp only [List.length_nil, Nat.zero_add] at hb hn ⊢
        simp only [aAppend, h1, h2, hold, hR', hm0, if_false, if_true, Nat.zero_add]
        rw [if_neg (by unfold loose; omega)]
        simp [show lim' ≤ R by omega, place, List.set_append_left _ _ hRl, List.append_assoc]
      · rw [List.append_nil, List.nil_append]
        refine Own.new ?_ (by simp; omega)
        rw [← List.append_assoc, show (G ++ X).length = (G.set R .dead ++ X).length by simp]; exact hget_new0
end

theorem concat_tail [OB] {lim B c1 c2 cap : Nat} {o : Bool} {q p1 p2 : Option Addr} {m1 m2 : List Leg} {H G : Heap} {fr : Nat → Value} {K : List AItem} {Z : Value → Heap → Prop} (hB : hget H B = .cells o [.slice p1 m1.length c1, .slice p2 m2.length c2]) (s1 : Sl H encL 8 p1 m1) (s2 : Sl H encL 8 p2 m2) (hn : m1.length + m2.length < 2 ^ 20) (hlim : lim ≤ H.length)
    (hE : Chg [] H G) (hO : OwnZ H.length G encL 8 q cap []) (f6 : fr 6 = .slice q 0 cap) (f25 : fr 25 = .slice (some ⟨B, 0, none⟩) 2 2) (f26 : fr 26 = .int .i64 2) (f27 : fr 27 = .int .i64 0)
    (hR : ∀ fr' G' q' cap', Chg [] H G' → OwnZ H.length G' encL 8 q' cap' (m1 ++ m2) → fr' 6 = .slice q' (m1.length + m2.length) cap' → Ret E a70 lim K fr' (G' ++ []) Z) :
    Ret E a70 lim (.code (.loop l70_1) :: .inBlock 2 :: K) fr G Z := by
  have i0 : ∀ k (H1 : Heap), idxK 1 (.slice (some ⟨B, 0, none⟩) 2 2) (.int k 0) H1 = some (.pointer (some ⟨B, 0, none⟩), H1) := fun k H1 => by simp [idxK, addr_add]
  have i1 : ∀ k (H1 : Heap), idxK 1 (.slice (some ⟨B, 0, none⟩) 2 2) (.int k 1) H1 = some (.pointer (some ⟨B, 1, none⟩), H1) := fun k H1 => by simp [idxK, addr_add]
  have w3 : IntKind.i64.wrap (0 + 1) = 1 := by decide
  have w4 : IntKind.i64.wrap (1 + 1) = 2 := by decide
  have hBX := fun X => (Ext.refl.app (X := X)).cells (hE.cells hB (by simp))
  have hl := hE.len
  obtain ⟨G2, q2, k2, e2, O2, C2, _, l2⟩ := hO.more (lim' := lim) (bytes := 64) hlim encL_len (by decide) m1 (by unfold maxBytes; simp; omega) (by simp; omega) hl [] (x := .slice p1 m1.length c1) (str := false) (first_slice ((hE.ext.sl s1).app _)) rfl
  have E2 := C2 [] H (Nat.le_refl _) hE
  rw [List.append_nil] at E2 O2
  have hBX2 := fun X => (Ext.refl.app (X := X)).cells (E2.cells hB (by simp))
  obtain ⟨G3, q3, k3, e3, O3, C3, _, l3⟩ := O2.more (lim' := lim) (bytes := 64) hlim encL_len (by decide) m2 (by unfold maxBytes; simp; omega) (by simp; omega) (by omega) [] (x := .slice p2 m2.length c2) (str := false) (first_slice ((E2.ext.sl s2).app _)) rfl
  have E3 := C3 [] H (Nat.le_refl _) E2
  rw [List.append_nil] at E3 O3
  simp only [List.length_nil, Nat.zero_add, List.nil_append] at e2 e3 O3
  refine Ret_pad ?_
  rw [Ret_loop, Ret_code l70_1.eq_1]
  simp only [n70, r70, f6, f25, f26, f27, hBX, i0, w3, e2, SB, Nat.reduceLT, callee, aOp, ne_eq, Nat.reduceEqDiff, aBin, aUn, if_true, if_false, reduceCtorEq, frame0, place, notTuple, Nat.reduceAdd, Nat.reduceLeDiff, resVal, dite_true, dite_false, Int.reduceEq, Int.reduceLT, Int.reduceLE]
  rw [Ret_inLoop, Ret_code l70_1.eq_1]
  simp only [n70, r70, f6, f25, f26, f27, hBX2, i1, w4, e3, SB, Nat.reduceLT, callee, aOp, ne_eq, Nat.reduceEqDiff, aBin, aUn, if_true, if_false, reduceCtorEq, frame0, place, notTuple, Nat.reduceAdd, Nat.reduceLeDiff, resVal, dite_true, dite_false, Int.reduceEq, Int.reduceLT, Int.reduceLE]
  rw [Ret_inLoop, Ret_code l70_1.eq_1]
  simp only [n70, r70, f6, f25, f26, f27, SB, Nat.reduceLT, callee, aOp, ne_eq, Nat.reduceEqDiff, aBin, aUn, if_true, if_false, reduceCtorEq, frame0, place, notTuple, Nat.reduceAdd, Nat.reduceLeDiff, resVal, dite_true, dite_false, Int.reduceEq, Int.reduceLT, Int.reduceLE]
  exact hR _ _ _ _ E3 O3 (by simp only [FB, Nat.reduceEqDiff])

theorem concat_ok [OB] {lim B c1 c2 : Nat} {o : Bool} {p1 p2 : Option Addr} {m1 m2 : List Leg} {H : Heap} {Q : Value → Heap → Prop} (hB : hget H B = .cells o [.slice p1 m1.length c1, .slice p2 m2.length c2]) (s1 : Sl H encL 8 p1 m1) (s2 : Sl H encL 8 p2 m2) (hn : m1.length + m2.length < 2 ^ 20) (hlim : lim ≤ H.length)
    (hQ : ∀ H' q cap, Chg [] H H' → OwnZ H.length H' encL 8 q cap (m1 ++ m2) → Q (.slice q (m1.length + m2.length) cap) H') :
    CallR E false lim 70 [.slice (some ⟨B, 0, none⟩) 2 2] H Q := by
  refine runs' (by decide) e70 rfl ?_
  rw [b70, c70]
  have hBX := fun X => (Ext.refl.app (X := X)).cells hB
  have w1 : IntKind.i64.wrap (0 + (m1.length : Int)) = (m1.length : Int) := by rw [Int.zero_add]; exact wrap_id (by omega) (by omega)
  have w2 : IntKind.i64.wrap ((m1.length : Int) + (m2.length : Int)) = ((m1.length + m2.length : Nat) : Int) := by rw [wrap_id (by omega) (by omega)]; omega
  have n1 : ¬ (m1.length : Int) < 0 := by omega
  have n2 : ¬ ((m1.length + m2.length : Nat) : Int) < 0 := by omega
  have i0 : ∀ k (H1 : Heap), idxK 1 (.slice (some ⟨B, 0, none⟩) 2 2) (.int k 0) H1 = some (.pointer (some ⟨B, 0, none⟩), H1) := fun k H1 => by simp [idxK, addr_add]
  have i1 : ∀ k (H1 : Heap), idxK 1 (.slice (some ⟨B, 0, none⟩) 2 2) (.int k 1) H1 = some (.pointer (some ⟨B, 1, none⟩), H1) := fun k H1 => by simp [idxK, addr_add]
  have w3 : IntKind.i64.wrap (0 + 1) = 1 := by decide
  have w4 : IntKind.i64.wrap (1 + 1) = 2 := by decide
  simp only [n70, r70, SB, Nat.reduceLT, callee, aOp, ne_eq, Nat.reduceEqDiff, aBin, aUn, if_true, if_false, reduceCtorEq, frame0, place, notTuple, Nat.reduceAdd, Nat.reduceLeDiff, resVal, dite_true, dite_false, Int.reduceEq, Int.reduceLT, Int.reduceLE]
  rw [Ret_loop, Ret_code l70_2.eq_1]
  simp only [n70, r70, hBX, i0, w1, w3, n1, SB, Nat.reduceLT, callee, aOp, ne_eq, Nat.reduceEqDiff, aBin, aUn, if_true, if_false, reduceCtorEq, frame0, place, notTuple, Nat.reduceAdd, Nat.reduceLeDiff, resVal, dite_true, dite_false, Int.reduceEq, Int.reduceLT, Int.reduceLE]
  rw [Ret_inLoop, Ret_code l70_2.eq_1]
  simp only [n70, r70, hBX, i1, w2, w4, n2, SB, Nat.reduceLT, callee, aOp, ne_eq, Nat.reduceEqDiff, aBin, aUn, if_true, if_false, reduceCtorEq, frame0, place, notTuple, Nat.reduceAdd, Nat.reduceLeDiff, resVal, dite_true, dite_false, Int.reduceEq, Int.reduceLT, Int.reduceLE]
  rw [Ret_inLoop, Ret_code l70_2.eq_1]
  simp only [n70, r70, SB, Nat.reduceLT, callee, aOp, ne_eq, Nat.reduceEqDiff, aBin, aUn, if_true, if_false, reduceCtorEq, frame0, place, notTuple, Nat.reduceAdd, Nat.reduceLeDiff, resVal, dite_true, dite_false, Int.reduceEq, Int.reduceLT, Int.reduceLE]
  rw [List.append_nil]
  refine grow_ok (by omega) hlim (fun h0 X => ?_) (fun h0 z => ?_)
  · refine Ret_pad ?_
    simp only [n70, r70, SB, Nat.reduceLT, callee, aOp, ne_eq, Nat.reduceEqDiff, aBin, aUn, if_true, if_false, reduceCtorEq, frame0, place, notTuple, Nat.reduceAdd, Nat.reduceLeDiff, resVal, dite_true, dite_false, Int.reduceEq, Int.reduceLT, Int.reduceLE]
    refine concat_tail (c1 := c1) (c2 := c2) (o := o) hB s1 s2 hn hlim (Chg.refl.app) (.inl .nil) (by simp only [FB, Nat.reduceEqDiff]) (by simp only [FB, Nat.reduceEqDiff]) (by simp only [FB, Nat.reduceEqDiff]) (by simp only [FB, Nat.reduceEqDiff]) fun fr' G' q' cap' hC hO g6 => ?_
    simp only [n70, r70, g6, SB, Nat.reduceLT, callee, aOp, ne_eq, Nat.reduceEqDiff, aBin, aUn, if_true, if_false, reduceCtorEq, frame0, place, notTuple, Nat.reduceAdd, Nat.reduceLeDiff, resVal, dite_true, dite_false, Int.reduceEq, Int.reduceLT, Int.reduceLE]
    exact hQ _ _ _ hC.app (hO.app _)
  · refine Ret_pad ?_
    simp only [n70, r70, SB, Nat.reduceLT, callee, aOp, ne_eq, Nat.reduceEqDiff, aBin, aUn, if_true, if_false, reduceCtorEq, frame0, place, notTuple, Nat.reduceAdd, Nat.reduceLeDiff, resVal, dite_true, dite_false, Int.reduceEq, Int.reduceLT, Int.reduceLE]
    refine concat_tail (c1 := c1) (c2 := c2) (o := o) hB s1 s2 hn hlim (Chg.refl.app) (.inr ⟨rfl, rfl, _, z, rfl, hget_new0, Nat.le_refl _⟩) (by simp only [FB, Nat.reduceEqDiff]) (by simp only [FB, Nat.reduceEqDiff]) (by simp only [FB, Nat.reduceEqDiff]) (by simp only [FB, Nat.reduceEqDiff]) fun fr' G' q' cap' hC hO g6 => ?_
    simp only [n70, r70, g6, SB, Nat.reduceLT, callee, aOp, ne_eq, Nat.reduceEqDiff, aBin, aUn, if_true, if_false, reduceCtorEq, frame0, place, notTuple, Nat.reduceAdd, Nat.reduceLeDiff, resVal, dite_true, dite_false, Int.reduceEq, Int.reduceLT, Int.reduceLE]
    exact hQ _ _ _ hC.app (hO.app _)

/-- Without: the error, or the network without the leg, in slices of its own. -/
theorem Without_ok [OB] {lim : Nat} {pp pl : Option Addr} {P : List Int} {L : List Leg} {cp cl : Nat} {t : Int} {H : Heap} {Q : Value → Heap → Prop} (hn : NetIn H pp pl P L) (hc : CapOk 8 cl L.length) (hP : P ≠ []) (hlim : lim ≤ H.length) (hv : validN P L = 0) (ht : ∃ l ∈ L, l.id = t)
    (hok : ∀ H' qp ql cql, Chg [] H H' → Own H.length H' encI 1 qp (loose 1) P → OwnZ H.length H' encL 8 ql cql (L.take (L.findIdx fun l => l.id = t) ++ L.drop (L.findIdx (fun l => l.id = t) + 1)) → Q (.tuple #[.agg (netV qp P.length (loose 1) ql (L.length - 1) cql).toArray, .int .i64 0]) H') :
    CallR E false lim 27 [.agg (netV pp P.length cp pl L.length cl).toArray, .int .i64 t] H Q := by
  refine runs' (by decide) e27 rfl ?_
  rw [b27, c27]
  obtain ⟨v1, v2, v3, v4⟩ := validN_0 hv
  have hvd := fun X (mp : Bool) (lim : Nat) (Q : Value → Heap → Prop) => valid_ok (mp := mp) (lim := lim) (cp := cp) (cl := cl) (Q := Q) (hn.app X)
  rw [hv] at hvd
  have hix := fun X (mp : Bool) (lim : Nat) (Q : Value → Heap → Prop) => legindex_ok (mp := mp) (lim := lim) (A := H.length + 1) (o := false) (t := t) (cap := cl) (Q := Q) (H := H ++ .cells false (netV pp P.length cp pl L.length cl) :: .cells false [.int .i64 t] :: X) (by rw [hget_new]; rfl) (hn.sl.app _) (by omega)
  have hat : legAt L t = ((L.findIdx fun l => l.id = t : Nat) : Int) := if_pos ht
  have hil : L.findIdx (fun l => l.id = t) < L.length := by
    rw [List.findIdx_lt_length]
    obtain ⟨l, h1, h2⟩ := ht
    exact ⟨l, h1, by simpa using h2⟩
  rw [hat] at hix
  generalize L.findIdx (fun l => decide (l.id = t)) = i at *
  have hineg : ¬ (i : Int) < 0 := by omega
  have w1 : IntKind.i64.wrap ((i : Int) + 1) = ((i + 1 : Nat) : Int) := wrap_nat (by omega)
  obtain ⟨q1, k1, x1, s1, _, _, _⟩ := slice_cut (vlo := none) (vhi := some (.int .i64 (i : Int))) (lo := 0) (hi := i) hn.sl hc encL_len (fun cap hcap => by rw [bv_010 (by omega) (by omega), Int.toNat_natCast]) (Nat.zero_le _) (by omega) (by omega)
  obtain ⟨q2, k2, x2, s2, _, _, _⟩ := slice_cut (vlo := some (.int .i64 ((i + 1 : Nat) : Int))) (vhi := none) (lo := i + 1) (hi := L.length) hn.sl hc encL_len (fun cap hcap => by rw [bv_100 (by omega) (by omega), Int.toNat_natCast]) (by omega) (Nat.le_refl _) (by omega)
  rw [List.drop_zero] at s1
  rw [List.take_length] at s2
  simp only [Nat.sub_zero] at x1
  simp only [n27, r27, hvd, netV_len, netV_0, netV_1, take_all, hix, hineg, w1, x1, x2, SB, Nat.reduceLT, callee, aOp, ne_eq, Nat.reduceEqDiff, aBin, aUn, if_true, if_false, reduceCtorEq, frame0, place, notTuple, Nat.reduceAdd, Nat.reduceLeDiff, resVal, dite_true, dite_false, Int.reduceEq, Int.reduceLT, Int.reduceLE]
  refine clone_ok (hn.sp.app _) hP (by omega) fun H3 q3 hE3 hO3 => ?_
  obtain ⟨Y, rfl⟩ := hE3
  refine Ret_pad ?_
  simp only [n27, r27, SB, Nat.reduceLT, callee, aOp, ne_eq, Nat.reduceEqDiff, aBin, aUn, if_true, if_false, reduceCtorEq, frame0, place, notTuple, Nat.reduceAdd, Nat.reduceLeDiff, resVal, dite_true, dite_false, Int.reduceEq, Int.reduceLT, Int.reduceLE]
  have e1 : (L.take i).length = i := by rw [List.length_take]; omega
  have e2 : (L.drop (i + 1)).length = L.length - (i + 1) := by rw [List.length_drop]
  generalize hd : (Blk.cells false [.slice q1 i k1, .slice q2 (L.length - (i + 1)) k2]) = d
  generalize hG : H ++ .cells false (netV pp P.length cp pl L.length cl) :: .cells false [.int .i64 t] :: .cells false [.slice none 0 0, .slice none 0 0] :: d :: (Y ++ []) = G
  have hEG : Ext H G := ⟨_, hG.symm⟩
  have hGl : H.length + 4 ≤ G.length := by rw [← hG]; simp
  have hG3 : hget G (H.length + 3) = d := by rw [← hG, hget_new]; rfl
  have hG2 : hget G (H.length + 2) = .cells false [.slice none 0 0, .slice none 0 0] := by rw [← hG, hget_new]; rfl
  have hm : Mut ((H ++ [Blk.cells false (netV pp P.length cp pl L.length cl), Blk.cells false [.int .i64 t], Blk.cells false [.slice none 0 0, .slice none 0 0], Blk.dead]) ++ Y) G (H.length + 3) := by
    have e : G = ((H ++ [Blk.cells false (netV pp P.length cp pl L.length cl), Blk.cells false [.int .i64 t], Blk.cells false [.slice none 0 0, .slice none 0 0], Blk.dead]) ++ Y).set (H.length + 3) d := by
      rw [← hG, List.append_assoc, set_new]; simp
    rw [e]; exact ⟨by simp, fun j hj => hget_set_ne hj⟩
  simp only [List.length_append, List.length_cons, List.length_nil] at hO3
  have hO := hO3.mut hm fun a e => by have := (hO3.block e).1; omega
  have hcc := fun Q => concat_ok (lim := lim) (Q := Q) (B := H.length + 3) (o := false) (p1 := q1) (c1 := k1) (m1 := L.take i) (p2 := q2) (c2 := k2) (m2 := L.drop (i + 1)) (H := G) (by rw [hG3, ← hd, e1, e2]) (hEG.sl s1) (hEG.sl s2) (by omega) (by omega)
  rw [e1, e2] at hcc
  refine hcc _ fun H5 q5 c5 hC5 hO5 => ?_
  have hl5 := hC5.len
  obtain ⟨H6, e6, h6, m6⟩ := mut_set (hget_alive (hC5.cells hG2 (by simp))) (.cells false [.slice q3 P.length (loose 1), .slice q5 (i + (L.length - (i + 1))) c5])
  have hG2X := fun X => (Ext.refl.app (X := X)).cells (hC5.cells hG2 (by simp))
  have h6X := fun X => (Ext.refl.app (X := X)).cells h6
  have ei : i + (L.length - (i + 1)) = L.length - 1 := by omega
  rw [ei] at e6 h6 h6X
  refine Ret_pad ?_
  simp only [n27, r27, hG2X, e6, h6X, ei, show lim ≤ H.length + 2 by omega, SB, Nat.reduceLT, callee, aOp, ne_eq, Nat.reduceEqDiff, aBin, aUn, if_true, if_false, reduceCtorEq, frame0, place, notTuple, Nat.reduceAdd, Nat.reduceLeDiff, resVal, dite_true, dite_false, Int.reduceEq, Int.reduceLT, Int.reduceLE]
  refine hok _ q3 q5 c5 ((((hEG.chg).trans hC5).mut m6 (.inr (by omega))).app) ?_ ?_
  · exact (((hO.chg hC5 (by simp)).mut m6 fun a e => by have := (hO.block e).1; omega).le (by omega)).app _
  · have hc6 : Chg [H.length + 2] H5 H6 := Chg.refl.mut m6 (.inl (by simp))
    exact ((hO5.chg hc6 fun a e => by have := (hO5.block e).1; simp only [List.mem_singleton]; omega).le (by omega)).app _
end Go.Proofs.Ytcmhnincbkbncaa.Fn
namespace Go.Proofs.Ytcmhnincbkbncaa.Fn
open Go.AM Go.AM.Sym Go.Net
set_option maxRecDepth 100000
set_option linter.unusedVariables false
set_option linter.unusedSimpArgs false
set_option maxHeartbeats 4000000

theorem samelegs_eqv {a b : Leg} : aEq (.agg [.int .i64, .int .i64, .int .i64, .int .i64, .int .i64, .int .i64, .int .i64, .int .u8]) (.agg (encL a).toArray) (.agg (encL b).toArray) = some (decide (a = b)) := by
  simp only [aEq, encL, cellsEq, cellEq, and_self, if_true]
  congr 1
  rw [Bool.eq_iff_iff]
  cases a; cases b
  simp [and_assoc]
def encS (s : Int × Int × Int) : List Value := enc3 s
theorem stop_eqv {a b : Int × Int × Int} : aEq (.agg [.int .i64, .int .i64, .int .i64]) (.agg (enc3 a).toArray) (.agg (enc3 b).toArray) = some (decide (a = b)) := by
  simp only [aEq, enc3, cellsEq, cellEq, and_self, if_true]
  congr 1
  rw [Bool.eq_iff_iff]
  obtain ⟨a1, a2, a3⟩ := a
  obtain ⟨b1, b2, b3⟩ := b
  simp [and_assoc]

theorem samestops_ok [OB] {mp : Bool} {lim ca cb : Nat} {p q : Option Addr} {a b : List (Int × Int × Int)} {H : Heap} {Q : Value → Heap → Prop} (ha : Sl H enc3 3 p a) (hb : Sl H enc3 3 q b) (hn : a.length < 2 ^ 62) :
    CallR E mp lim 31 [.slice p a.length ca, .slice q b.length cb] H Q = Q (.bool (decide (a = b))) H := by
  refine pc (by decide) e31 rfl rfl ?_
  rw [b31, c31]
  by_cases hl : a.length = b.length
  case neg =>
    have h1 : ¬ (a.length : Int) = (b.length : Int) := by omega
    simp only [n31, r31, eq_false h1, SB, Nat.reduceLT, callee, aOp, ne_eq, Nat.reduceEqDiff, aBin, aUn, if_true, if_false, reduceCtorEq, frame0, place, notTuple, Nat.reduceAdd, Nat.reduceLeDiff, resVal, dite_true, dite_false, Int.reduceEq, Int.reduceLT, Int.reduceLE]
    congr 1
    rw [eq_comm, decide_eq_false_iff_not]
    rintro rfl
    exact hl rfl
  have h1 : (a.length : Int) = (b.length : Int) := by omega
  simp only [n31, r31, eq_true h1, SB, Nat.reduceLT, callee, aOp, ne_eq, Nat.reduceEqDiff, aBin, aUn, if_true, if_false, reduceCtorEq, frame0, place, notTuple, Nat.reduceAdd, Nat.reduceLeDiff, resVal, dite_true, dite_false, Int.reduceEq, Int.reduceLT, Int.reduceLE]
  refine Ret_rounds (fun j => a.length - j) (fun j fr G => j ≤ a.length ∧ fr 0 = .slice p a.length ca ∧ fr 1 = .slice q b.length cb ∧ fr 5 = .int .i64 (j : Int) ∧ Ext H G ∧ ∀ i, i < j → gt a i = gt b i) 0 ⟨Nat.zero_le _, (by simp only [FB, Nat.reduceEqDiff]), (by simp only [FB, Nat.reduceEqDiff]), by rfl, Ext.refl.app, fun i hi => by omega⟩ ?_
  intro j fr G ⟨hj, f0, f1, f5, hE, hall⟩ hN
  rw [Ret_code l31_1.eq_1]
  refine Ret_pad ?_
  by_cases hlt : j < a.length
  case neg =>
    obtain rfl : j = a.length := by omega
    simp only [n31, r31, f0, f1, f5, hlt, SB, Nat.reduceLT, callee, aOp, ne_eq, Nat.reduceEqDiff, aBin, aUn, if_true, if_false, reduceCtorEq, frame0, place, notTuple, Nat.reduceAdd, Nat.reduceLeDiff, resVal, dite_true, dite_false, Int.reduceEq, Int.reduceLT, Int.reduceLE]
    rw [decide_eq_true (same_all hl hall)]
  have l1 := fun X => ((hE.sl ha).app X).loadCells enc3_len hlt
  have l2 := fun X => ((hE.sl hb).app X).loadCells enc3_len (by omega : j < b.length)
  have x1 := fun c (kk : IntKind) (H1 : Heap) => (hE.sl ha).idx (c := c) (k := kk) (H1 := H1) hlt
  have x2 := fun c (kk : IntKind) (H1 : Heap) => (hE.sl hb).idx (c := c) (k := kk) (H1 := H1) (by omega : j < b.length)
  have hw1 : IntKind.i64.wrap ((j : Int) + 1) = ((j + 1 : Nat) : Int) := wrap_nat (by omega)
  have hq := stop_eqv (a := gt a j) (b := gt b j)
  by_cases he : gt a j = gt b j
  · rw [decide_eq_true he] at hq
    simp only [n31, r31, f0, f1, f5, hlt, l1, l2, x1, x2, hw1, hq, SB, Nat.reduceLT, callee, aOp, ne_eq, Nat.reduceEqDiff, aBin, aUn, if_true, if_false, reduceCtorEq, frame0, place, notTuple, Nat.reduceAdd, Nat.reduceLeDiff, resVal, dite_true, dite_false, Int.reduceEq, Int.reduceLT, Int.reduceLE]
    exact hN (j + 1) _ _ ⟨by omega, (by simp only [f0, FB, Nat.reduceEqDiff]), (by simp only [f1, FB, Nat.reduceEqDiff]), (by simp only [FB, Nat.reduceEqDiff]), hE.app, same_step hl hlt hall he⟩ (by omega)
  · rw [decide_eq_false he] at hq
    simp only [n31, r31, f0, f1, f5, hlt, l1, l2, x1, x2, hw1, hq, SB, Nat.reduceLT, callee, aOp, ne_eq, Nat.reduceEqDiff, aBin, aUn, if_true, if_false, reduceCtorEq, frame0, place, notTuple, Nat.reduceAdd, Nat.reduceLeDiff, resVal, dite_true, dite_false, Int.reduceEq, Int.reduceLT, Int.reduceLE]
    rw [decide_eq_false]
    rintro rfl
    exact he rfl
theorem samelegs_ok [OB] {mp : Bool} {lim ca cb : Nat} {p q : Option Addr} {a b : List Leg} {H : Heap} {Q : Value → Heap → Prop} (ha : Sl H encL 8 p a) (hb : Sl H encL 8 q b) (hn : a.length < 2 ^ 62) :
    CallR E mp lim 29 [.slice p a.length ca, .slice q b.length cb] H Q = Q (.bool (decide (a = b))) H := by
  refine pc (by decide) e29 rfl rfl ?_
  rw [b29, c29]
  by_cases hl : a.length = b.length
  case neg =>
    have h1 : ¬ (a.length : Int) = (b.length : Int) := by omega
    simp only [n29, r29, eq_false h1, SB, Nat.reduceLT, callee, aOp, ne_eq, Nat.reduceEqDiff, aBin, aUn, if_true, if_false, reduceCtorEq, frame0, place, notTuple, Nat.reduceAdd, Nat.reduceLeDiff, resVal, dite_true, dite_false, Int.reduceEq, Int.reduceLT, Int.reduceLE]
    congr 1
    rw [eq_comm, decide_eq_false_iff_not]
    rintro rfl
    exact hl rfl
  have h1 : (a.length : Int) = (b.length : Int) := by omega
  simp only [n29, r29, eq_true h1, SB, Nat.reduceLT, callee, aOp, ne_eq, Nat.reduceEqDiff, aBin, aUn, if_true, if_false, reduceCtorEq, frame0, place, notTuple, Nat.reduceAdd, Nat.reduceLeDiff, resVal, dite_true, dite_false, Int.reduceEq, Int.reduceLT, Int.reduceLE]
  refine Ret_rounds (fun j => a.length - j) (fun j fr G => j ≤ a.length ∧ fr 0 = .slice p a.length ca ∧ fr 1 = .slice q b.length cb ∧ fr 5 = .int .i64 (j : Int) ∧ Ext H G ∧ ∀ i, i < j → gt a i = gt b i) 0 ⟨Nat.zero_le _, (by simp only [FB, Nat.reduceEqDiff]), (by simp only [FB, Nat.reduceEqDiff]), by rfl, Ext.refl.app, fun i hi => by omega⟩ ?_
  intro j fr G ⟨hj, f0, f1, f5, hE, hall⟩ hN
  rw [Ret_code l29_1.eq_1]
  refine Ret_pad ?_
  by_cases hlt : j < a.length
  case neg =>
    obtain rfl : j = a.length := by omega
    simp only [n29, r29, f0, f1, f5, hlt, SB, Nat.reduceLT, callee, aOp, ne_eq, Nat.reduceEqDiff, aBin, aUn, if_true, if_false, reduceCtorEq, frame0, place, notTuple, Nat.reduceAdd, Nat.reduceLeDiff, resVal, dite_true, dite_false, Int.reduceEq, Int.reduceLT, Int.reduceLE]
    rw [decide_eq_true (same_all hl hall)]
  have l1 := fun X => ((hE.sl ha).app X).loadCells encL_len hlt
  have l2 := fun X => ((hE.sl hb).app X).loadCells encL_len (by omega : j < b.length)
  have x1 := fun c (kk : IntKind) (H1 : Heap) => (hE.sl ha).idx (c := c) (k := kk) (H1 := H1) hlt
  have x2 := fun c (kk : IntKind) (H1 : Heap) => (hE.sl hb).idx (c := c) (k := kk) (H1 := H1) (by omega : j < b.length)
  have hw1 : IntKind.i64.wrap ((j : Int) + 1) = ((j + 1 : Nat) : Int) := wrap_nat (by omega)
  have hq := samelegs_eqv (a := gt a j) (b := gt b j)
  by_cases he : gt a j = gt b j
  · rw [decide_eq_true he] at hq
    simp only [n29, r29, f0, f1, f5, hlt, l1, l2, x1, x2, hw1, hq, SB, Nat.reduceLT, callee, aOp, ne_eq, Nat.reduceEqDiff, aBin, aUn, if_true, if_false, reduceCtorEq, frame0, place, notTuple, Nat.reduceAdd, Nat.reduceLeDiff, resVal, dite_true, dite_false, Int.reduceEq, Int.reduceLT, Int.reduceLE]
    exact hN (j + 1) _ _ ⟨by omega, (by simp only [f0, FB, Nat.reduceEqDiff]), (by simp only [f1, FB, Nat.reduceEqDiff]), (by simp only [FB, Nat.reduceEqDiff]), hE.app, same_step hl hlt hall he⟩ (by omega)
  · rw [decide_eq_false he] at hq
    simp only [n29, r29, f0, f1, f5, hlt, l1, l2, x1, x2, hw1, hq, SB, Nat.reduceLT, callee, aOp, ne_eq, Nat.reduceEqDiff, aBin, aUn, if_true, if_false, reduceCtorEq, frame0, place, notTuple, Nat.reduceAdd, Nat.reduceLeDiff, resVal, dite_true, dite_false, Int.reduceEq, Int.reduceLT, Int.reduceLE]
    rw [decide_eq_false]
    rintro rfl
    exact he rfl

theorem daily_ok [OB] {mp : Bool} {lim : Nat} {a b c d e f : Int} {H : Heap} {Q : Value → Heap → Prop} : CallR E mp lim 17 [.int .i64 a, .int .i64 b, .int .i64 c, .int .i64 d, .int .i64 e, .int .i64 f] H Q = Q (.agg (encL ⟨a, b, c, d, e, f, 0, 127⟩).toArray) H := by
  refine pc (by decide) e17 rfl rfl ?_
  rw [b17, c17]
  simp only [n17, r17, encL, SB, Nat.reduceLT, callee, aOp, ne_eq, Nat.reduceEqDiff, aBin, aUn, if_true, if_false, reduceCtorEq, frame0, place, notTuple, Nat.reduceAdd, Nat.reduceLeDiff, resVal, dite_true, dite_false, Int.reduceEq, Int.reduceLT, Int.reduceLE]
theorem three_ok [OB] {lim : Nat} {H : Heap} {Q : Value → Heap → Prop} (hlim : lim ≤ H.length) (hQ : ∀ H' a b, Ext H H' → NetIn H' a b P3 L3 → Q (.agg (netV a 3 3 b 3 3).toArray) H') : CallR E false lim 60 [] H Q := by
  refine runs' (by decide) e60 rfl ?_
  rw [b60, c60]
  simp only [n60, r60, daily_ok, encL, setAll_full, hlim, SB, Nat.reduceLT, callee, aOp, ne_eq, Nat.reduceEqDiff, aBin, aUn, if_true, if_false, reduceCtorEq, frame0, place, notTuple, Nat.reduceAdd, Nat.reduceLeDiff, resVal, dite_true, dite_false, Int.reduceEq, Int.reduceLT, Int.reduceLE]
  refine hQ _ (some ⟨H.length + 1, 0, none⟩) (some ⟨H.length + 2, 0, none⟩) Ext.refl.app ⟨Sl.row (ro := false) encI_len (by rw [hget_new]; rfl), Sl.row (ro := false) encL_len (by rw [hget_new]; rfl), by decide, by decide, ?_⟩
  intro l hl
  simp only [L3, List.mem_cons, List.not_mem_nil, or_false] at hl
  rcases hl with rfl | rfl | rfl <;> (unfold By; decide)
theorem aw7 : IsArr L3 1 0 3 780 := by
  have hk : arrK 3 (posN P3) (0 + 86400) L3 1 0 2 = [0, 660, 780] := by rw [arrK, arrK, arrK]; exact (congrArg _ s_a).trans s_b
  have h1 := arrK_all (net3 val3) (p := 1) (by decide) (Int.le_refl 0) (by decide : (0 : Int) ≤ 0 + 86400) (k := 2) (by rw [arrK, hk]; exact s_c) 3 (by decide)
  rw [hk] at h1
  exact h1
theorem er3 {p q t : Int} (hp : p ∈ P3) (hq : q ∈ P3) (h0 : 0 ≤ t) (h1 : t ≤ maxTime) : errA P3 L3 p q t = 0 := by
  unfold errA; rw [if_neg (by rw [val3]; decide), if_pos ⟨hp, hq, h0, h1⟩]
theorem erM {p q t : Int} (hp : p ∈ P3) (hq : q ∈ P3) (h0 : 0 ≤ t) (h1 : t ≤ maxTime) : errA P3 M3 p q t = 0 := by
  unfold errA; rw [if_neg (by rw [valM]; decide), if_pos ⟨hp, hq, h0, h1⟩]
theorem awake33_go [OB] {mp : Bool} {lim : Nat} {H : Heap} {Q : Value → Heap → Prop} (hoff : OB.on 21 = false) : CallR E mp lim 21 [] H Q = Q (.bool true) H := by
  refine CallR_pure (E := E) (by simp [E, orc, hoff]) (show E.tr 21 = some a21 from e21) rfl rfl (Ret_pad ?_)
  rw [b21, c21]
  simp only [n21, r21, SB, Nat.reduceLT, callee, aOp, ne_eq, Nat.reduceEqDiff, aBin, aUn, if_true, if_false, reduceCtorEq, frame0, place, notTuple, Nat.reduceAdd, Nat.reduceLeDiff, resVal, dite_true, dite_false, Int.reduceEq, Int.reduceLT, Int.reduceLE]
  rw [List.append_nil]
  refine three_ok (Nat.le_refl _) fun H0 pa pb hE0 hn0 => ?_
  refine Ret_pad ?_
  have hl0 := hE0.len
  simp only [n21, r21, netV_len, netV_0, netV_1, take_all, setAll_full, hl0, SB, Nat.reduceLT, callee, aOp, ne_eq, Nat.reduceEqDiff, aBin, aUn, if_true, if_false, reduceCtorEq, frame0, place, notTuple, Nat.reduceAdd, Nat.reduceLeDiff, resVal, dite_true, dite_false, Int.reduceEq, Int.reduceLT, Int.reduceLE]
  -- Arrive
  refine Arrive_ok (P := P3) (L := L3) (cp := 3) (cl := 3) (hn0.app _) (by simp; omega) (fun _ h => absurd (er3 (by decide) (by decide) (by decide) (by decide)) h) fun H1 q1 T1 _ hC1 hT1 hO1 hl1 => ?_
  have hN1 := hC1.cells (j := H0.length) hget_new0 (by simp)
  have hN1X := fun X => (Ext.refl.app (X := X)).cells hN1
  have hE1 : Ext H0 H1 := hC1.pre.ext
  have hlen1 := hE1.len
  have S1 := hO1.sl encI_len
  obtain rfl := aw1 hT1
  refine Ret_pad ?_
  simp only [n21, r21, hN1X, netV_len, netV_0, netV_1, take_all, SB, Nat.reduceLT, callee, aOp, ne_eq, Nat.reduceEqDiff, aBin, aUn, if_true, if_false, reduceCtorEq, frame0, place, notTuple, Nat.reduceAdd, Nat.reduceLeDiff, resVal, dite_true, dite_false, Int.reduceEq, Int.reduceLT, Int.reduceLE]
  rw [List.append_nil]
  -- Way
  refine Way_ok (P := P3) (L := L3) (cp := 3) (cl := 3) (hn0.ext hE1) (by omega) (fun _ h => absurd (er3 (by decide) (by decide) (by decide) (by decide)) h) (fun _ _ h => by have := h.uniq aw7; omega) fun H2 v w p2 c2 _ hC2 hv0 hv hw _ hO2 => ?_
  obtain ⟨rfl, rfl⟩ := aw6 hv hw
  have hN2 := hC2.cells hN1 (by simp)
  have hN2X := fun X => (Ext.refl.app (X := X)).cells hN2
  have hE2 : Ext H0 H2 := hE1.trans hC2.ext
  have hlen2 := hC2.len
  have S2 := hO2.sl enc3_len
  replace S1 := hC2.ext.sl S1
  refine Ret_pad ?_
  simp only [n21, r21, hN2X, netV_len, netV_0, netV_1, take_all, SB, Nat.reduceLT, callee, aOp, ne_eq, Nat.reduceEqDiff, aBin, aUn, if_true, if_false, reduceCtorEq, frame0, place, notTuple, Nat.reduceAdd, Nat.reduceLeDiff, resVal, dite_true, dite_false, Int.reduceEq, Int.reduceLT, Int.reduceLE]
  rw [List.append_nil]
  refine Arrive_ok (P := P3) (L := L3) (cp := 3) (cl := 3) (hn0.ext hE2) (by omega) (fun _ h => absurd (er3 (by decide) (by decide) (by decide) (by decide)) h) fun H3 q3 T3 _ hC3 hT3 hO3 hl3 => ?_
  have hN3 := hC3.cells hN2 (by simp)
  have hN3X := fun X => (Ext.refl.app (X := X)).cells hN3
  have hE3 : Ext H0 H3 := hE2.trans hC3.ext
  have hlen3 := hC3.len
  have S3 := hO3.sl encI_len
  replace S1 := hC3.ext.sl S1
  replace S2 := hC3.ext.sl S2
  obtain rfl := aw2 hT3
  refine Ret_pad ?_
  simp only [n21, r21, hN3X, netV_len, netV_0, netV_1, take_all, SB, Nat.reduceLT, callee, aOp, ne_eq, Nat.reduceEqDiff, aBin, aUn, if_true, if_false, reduceCtorEq, frame0, place, notTuple, Nat.reduceAdd, Nat.reduceLeDiff, resVal, dite_true, dite_false, Int.reduceEq, Int.reduceLT, Int.reduceLE]
  rw [List.append_nil]
  refine Leave_ok (P := P3) (L := L3) (cp := 3) (cl := 3) (hn0.ext hE3) (by omega) (fun _ h => absurd (er3 (by decide) (by decide) (by decide) (by decide)) h) fun H4 q4 T4 _ hC4 hT4 hO4 hl4 => ?_
  have hN4 := hC4.cells hN3 (by simp)
  have hN4X := fun X => (Ext.refl.app (X := X)).cells hN4
  have hE4 : Ext H0 H4 := hE3.trans hC4.ext
  have hlen4 := hC4.len
  have S4 := hO4.sl encI_len
  replace S1 := hC4.ext.sl S1
  replace S2 := hC4.ext.sl S2
  replace S3 := hC4.ext.sl S3
  obtain rfl := aw5 hT4
  refine Ret_pad ?_
  simp only [n21, r21, hN4X, netV_len, netV_0, netV_1, take_all, SB, Nat.reduceLT, callee, aOp, ne_eq, Nat.reduceEqDiff, aBin, aUn, if_true, if_false, reduceCtorEq, frame0, place, notTuple, Nat.reduceAdd, Nat.reduceLeDiff, resVal, dite_true, dite_false, Int.reduceEq, Int.reduceLT, Int.reduceLE]
  rw [List.append_nil]
  refine Without_ok (P := P3) (L := L3) (cp := 3) (cl := 3) (hn0.ext hE4) (.inr ⟨by decide, by decide⟩) (by decide) (by omega) val3 ⟨g2, by simp [L3], rfl⟩ fun H5 qp ql cql hC5 hOp hOl => ?_
  have hid : (L3.findIdx fun l => l.id = 2) = 1 := rfl
  rw [hid] at hOl
  replace hOl : OwnZ H4.length H5 encL 8 ql cql M3 := hOl
  have hN5 := hC5.cells hN4 (by simp)
  have hN5X := fun X => (Ext.refl.app (X := X)).cells hN5
  have hE5 : Ext H0 H5 := hE4.trans hC5.ext
  have hlen5 := hC5.len
  replace S1 := hC5.ext.sl S1
  replace S2 := hC5.ext.sl S2
  replace S3 := hC5.ext.sl S3
  replace S4 := hC5.ext.sl S4
  have hnM : NetIn H5 qp ql P3 M3 := ⟨hOp.sl encI_len, hOl.sl encL_len, by decide, by decide, fun l hl => hn0.bys l (by
    simp only [M3, List.mem_cons, List.not_mem_nil, or_false] at hl
    rcases hl with rfl | rfl <;> simp [L3])⟩
  refine Ret_pad ?_
  simp only [n21, r21, netV_len, netV_0, netV_1, take_all, setAll_full, show H.length ≤ H5.length by omega, SB, Nat.reduceLT, callee, aOp, ne_eq, Nat.reduceEqDiff, aBin, aUn, if_true, if_false, reduceCtorEq, frame0, place, notTuple, Nat.reduceAdd, Nat.reduceLeDiff, resVal, dite_true, dite_false, Int.reduceEq, Int.reduceLT, Int.reduceLE]
  refine Arrive_ok (P := P3) (L := M3) (cp := loose 1) (cl := cql) (hnM.app _) (by simp; omega) (fun _ h => absurd (erM (by decide) (by decide) (by decide) (by decide)) h) fun H6 q6 T6 _ hC6 hT6 hO6 hl6 => ?_
  have hC6' := hC6.pre
  have hN6 := hC6'.cells hN5 (by simp)
  have hN6X := fun X => (Ext.refl.app (X := X)).cells hN6
  have hE6 : Ext H0 H6 := hE5.trans hC6'.ext
  have hlen6 := hC6'.len
  have S6 := hO6.sl encI_len
  replace S1 := hC6'.ext.sl S1
  replace S2 := hC6'.ext.sl S2
  replace S3 := hC6'.ext.sl S3
  replace S4 := hC6'.ext.sl S4
  obtain rfl := aw3 hT6
  refine Ret_pad ?_
  simp only [n21, r21, hN6X, netV_len, netV_0, netV_1, take_all, SB, Nat.reduceLT, callee, aOp, ne_eq, Nat.reduceEqDiff, aBin, aUn, if_true, if_false, reduceCtorEq, frame0, place, notTuple, Nat.reduceAdd, Nat.reduceLeDiff, resVal, dite_true, dite_false, Int.reduceEq, Int.reduceLT, Int.reduceLE]
  rw [List.append_nil]
  refine Way_ok (P := P3) (L := L3) (cp := 3) (cl := 3) (hn0.ext hE6) (by omega) (fun _ h => absurd (er3 (by decide) (by decide) (by decide) (by decide)) h) (fun H7 _ _ hC7 => ?_) fun H7 v w p7 c7 _ hC7 hv0 hv hw _ hO7 => ?_
  · replace S1 := hC7.ext.sl S1
    replace S2 := hC7.ext.sl S2
    replace S3 := hC7.ext.sl S3
    replace S4 := hC7.ext.sl S4
    replace S6 := hC7.ext.sl S6
    have f1 : ∀ (X : Heap) (mp : Bool) (lim : Nat) (Q : Value → Heap → Prop), CallR E mp lim 28 [.slice q1 P3.length (loose 1), .slice (some ⟨H7.length, 0, none⟩) 3 3] (H7 ++ .cells false [.int .i64 0, .int .i64 660, .int .i64 780] :: X) Q = Q (.bool true) (H7 ++ .cells false [.int .i64 0, .int .i64 660, .int .i64 780] :: X) := fun X mp lim Q =>
      sameints_ok (a := [0, 660, 780]) (b := [0, 660, 780]) (S1.app _) (Sl.row (ro := false) encI_len (by rw [hget_new0]; rfl)) (by decide)
    have f2 : ∀ (a : Blk) (X : Heap) (mp : Bool) (lim : Nat) (Q : Value → Heap → Prop), CallR E mp lim 31 [.slice p2 2 c2, .slice (some ⟨H7.length + 1, 0, none⟩) 2 2] (H7 ++ a :: .cells false [.int .i64 1, .int .i64 600, .int .i64 660, .int .i64 2, .int .i64 720, .int .i64 780] :: X) Q = Q (.bool true) (H7 ++ a :: .cells false [.int .i64 1, .int .i64 600, .int .i64 660, .int .i64 2, .int .i64 720, .int .i64 780] :: X) := fun a X mp lim Q =>
      samestops_ok (a := [(g1, (600 : Int)), (g2, 720)].map stopOf) (b := [(1, 600, 660), (2, 720, 780)]) (S2.app _) (Sl.row (ro := false) enc3_len (by rw [hget_new]; rfl)) (by decide)
    have f3 : ∀ (a b : Blk) (X : Heap) (mp : Bool) (lim : Nat) (Q : Value → Heap → Prop), CallR E mp lim 28 [.slice q3 P3.length (loose 1), .slice (some ⟨H7.length + 2, 0, none⟩) 3 3] (H7 ++ a :: b :: .cells false [.int .i64 601, .int .i64 2100, .int .i64 2220] :: X) Q = Q (.bool true) (H7 ++ a :: b :: .cells false [.int .i64 601, .int .i64 2100, .int .i64 2220] :: X) := fun a b X mp lim Q =>
      sameints_ok (a := [601, 2100, 2220]) (b := [601, 2100, 2220]) (S3.app _) (Sl.row (ro := false) encI_len (by rw [hget_new]; rfl)) (by decide)
    have f4 : ∀ (a b c : Blk) (X : Heap) (mp : Bool) (lim : Nat) (Q : Value → Heap → Prop), CallR E mp lim 28 [.slice q4 P3.length (loose 1), .slice (some ⟨H7.length + 3, 0, none⟩) 3 3] (H7 ++ a :: b :: c :: .cells false [.int .i64 600, .int .i64 660, .int .i64 780] :: X) Q = Q (.bool true) (H7 ++ a :: b :: c :: .cells false [.int .i64 600, .int .i64 660, .int .i64 780] :: X) := fun a b c X mp lim Q =>
      sameints_ok (a := [600, 660, 780]) (b := [600, 660, 780]) (S4.app _) (Sl.row (ro := false) encI_len (by rw [hget_new]; rfl)) (by decide)
    have f5 : ∀ (a b c d : Blk) (X : Heap) (mp : Bool) (lim : Nat) (Q : Value → Heap → Prop), CallR E mp lim 28 [.slice q6 P3.length (loose 1), .slice (some ⟨H7.length + 4, 0, none⟩) 3 3] (H7 ++ a :: b :: c :: d :: .cells false [.int .i64 0, .int .i64 660, .int .i64 840] :: X) Q = Q (.bool true) (H7 ++ a :: b :: c :: d :: .cells false [.int .i64 0, .int .i64 660, .int .i64 840] :: X) := fun a b c d X mp lim Q =>
      sameints_ok (a := [0, 660, 840]) (b := [0, 660, 840]) (S6.app _) (Sl.row (ro := false) encI_len (by rw [hget_new]; rfl)) (by decide)
    refine Ret_pad ?_
    simp only [n21, r21, f1, f2, f3, f4, f5, SB, Nat.reduceLT, callee, aOp, ne_eq, Nat.reduceEqDiff, aBin, aUn, if_true, if_false, reduceCtorEq, frame0, place, notTuple, Nat.reduceAdd, Nat.reduceLeDiff, resVal, dite_true, dite_false, Int.reduceEq, Int.reduceLT, Int.reduceLE]
  · have := aw4 hv; omega
end Go.Proofs.Ytcmhnincbkbncaa.Fn
namespace Go.Proofs.Ytcmhnincbkbncaa.Fn
open Go.AM Go.AM.Sym Go.Net
set_option maxRecDepth 100000
set_option linter.unusedVariables false
set_option linter.unusedSimpArgs false
set_option maxHeartbeats 4000000

theorem encI_eq {n : Int} : [.int .i64 n] = encI n := rfl
theorem rev_drop {α : Type} [Inhabited α] {l : List α} {k : Nat} (h : k < l.length) : (l.drop k).reverse = (l.drop (k + 1)).reverse ++ [gt l k] := by
  rw [List.drop_eq_getElem_cons h, List.reverse_cons, gt_lt h]

theorem rev_plants [OB] {lim A4 A9 n1 n2 c1 c2 : Nat} {p1 p2 : Option Addr} {L : List Int} {v2 : Value} {H G : Heap} {fr : Nat → Value} {K : List AItem} {Z : Value → Heap → Prop}
    (hs : Sl H encI 1 p1 L) (hn : L.length ≤ 200) (hl1 : n1 = L.length) (hlim : lim ≤ H.length) (hE : Chg [] H G) (h4 : hget G A4 = .cells false (netV p1 n1 c1 p2 n2 c2)) (h9 : hget G A9 = .cells false [.slice none 0 0, v2]) (h49 : A4 ≠ A9) (hA9 : H.length ≤ A9)
    (f4 : fr 4 = .pointer (some ⟨A4, 0, none⟩)) (f9 : fr 9 = .pointer (some ⟨A9, 0, none⟩)) (f10 : fr 10 = .int .i64 ((L.length : Int) - 1))
    (hR : ∀ fr' G' q cap, Chg [A9] G G' → Own G.length G' encI 1 q cap L.reverse → hget G' A9 = .cells false [.slice q L.length cap, v2] → fr' 1 = fr 1 → fr' 2 = fr 2 → fr' 3 = fr 3 → fr' 4 = fr 4 → fr' 9 = fr 9 → Ret E a7 lim K fr' (G' ++ []) Z) :
    Ret E a7 lim (.code (.loop l7_3) :: .inBlock 0 :: K) fr G Z := by
  have a4 := hget_alive h4
  have a9 := hget_alive h9
  refine Ret_rounds (fun s : Nat × Option Addr × Nat => s.1) (fun s fr' G' => s.1 ≤ L.length ∧ fr' 1 = fr 1 ∧ fr' 2 = fr 2 ∧ fr' 3 = fr 3 ∧ fr' 4 = .pointer (some ⟨A4, 0, none⟩) ∧ fr' 9 = .pointer (some ⟨A9, 0, none⟩) ∧ fr' 10 = .int .i64 ((s.1 : Int) - 1) ∧ Chg [A9] G G' ∧ hget G' A9 = .cells false [.slice s.2.1 (L.length - s.1) s.2.2, v2] ∧ Own G.length G' encI 1 s.2.1 s.2.2 (L.drop s.1).reverse) (L.length, none, 0)
    ⟨Nat.le_refl _, rfl, rfl, rfl, f4, f9, f10, Chg.refl, by simpa using h9, by rw [List.drop_length]; exact .nil⟩ ?_
  rintro ⟨k, q, cap⟩ fr' G' ⟨hk, g1, g2, g3, g4, g9, g10, hC, hq9, hO⟩ hN
  simp only at hk g10 hq9 hO
  have hl := hC.len
  have hlG : lim ≤ G'.length := by have := hE.len; omega
  rw [Ret_code l7_3.eq_1]
  refine Ret_pad ?_
  match k, hk, g10, hq9, hO, hN with
  | 0, hk, g10, hq9, hO, hN =>
    have this : ¬ (0 : Int) ≤ -1 := by decide
    replace g10 : fr' 10 = .int .i64 (-1) := g10
    simp only [n7, r7, g4, g9, g10, eq_false this, SB, Nat.reduceLT, callee, aOp, ne_eq, Nat.reduceEqDiff, aBin, aUn, if_true, if_false, reduceCtorEq, frame0, place, notTuple, Nat.reduceAdd, Nat.reduceLeDiff, resVal, dite_true, dite_false, Int.reduceEq, Int.reduceLT, Int.reduceLE]
    refine hR _ _ q cap hC hO ?_ (by rw [← g1]; exact (by simp only [FB, Nat.reduceEqDiff])) (by rw [← g2]; exact (by simp only [FB, Nat.reduceEqDiff])) (by rw [← g3]; exact (by simp only [FB, Nat.reduceEqDiff])) (by rw [f4]; exact (by simp only [g4, FB, Nat.reduceEqDiff])) (by rw [f9]; exact (by simp only [g9, FB, Nat.reduceEqDiff]))
    simpa using hq9
  | k + 1, hk, g10, hq9, hO, hN =>
    have e1 : ((k + 1 : Nat) : Int) - 1 = (k : Int) := by omega
    rw [e1] at g10
    have hkk : (0 : Int) ≤ (k : Int) := by omega
    have wk : IntKind.i64.wrap ((k : Int) - 1) = (k : Int) - 1 := wrap_id (by omega) (by omega)
    have hlt : k < L.length := by omega
    have hEG : Chg [] H G' := hE.trans' hC fun j h1 h2 => by simp only [List.mem_singleton] at h1; omega
    have hsl := hEG.ext.sl hs
    have hld := fun X => (hsl.app X).loadCell0 encI_len hlt (by decide)
    simp only [encI, List.getElem?_cons_zero] at hld
    have hidx := fun c (kk : IntKind) (H1 : Heap) => hsl.idx (c := c) (k := kk) (H1 := H1) hlt
    have q4' := hC.cells h4 (by simpa using h49)
    have q4 := fun X => (Ext.refl.app (X := X)).cells q4'
    have q9 := fun X => (Ext.refl.app (X := X)).cells hq9
    have hrl : ((L.drop (k + 1)).reverse).length = L.length - (k + 1) := by simp
    obtain ⟨G2, p2', c2', e2, O2, C2, hold2, l2, hp2, _⟩ := hO.moreD (d := G'.length + 1) (lim' := lim) (bytes := 8) (by have := hE.len; omega) encI_len (by decide) [gt L k] (by rw [hrl]; unfold maxBytes; simp; omega) (by rw [hrl]; simp; omega) (by omega) [.cells false (encI (gt L k)), .dead] (by omega) (by simp) (x := .slice (some ⟨G'.length, 0, none⟩) 1 1) (str := false)
      (first_slice (m := [gt L k]) (Sl.row encI_len (by rw [hget_new0]; simp; rfl))) rfl
    rw [hrl] at e2
    rw [← rev_drop hlt] at O2
    have ek : L.length - (k + 1) + [gt L k].length = L.length - k := by simp; omega
    rw [ek] at e2
    simp only [encI] at e2
    have c2 := C2 [A9] G (Nat.le_refl _) hC
    have t9 : hget (G2 ++ []) A9 = _ := (hold2 A9 (by omega) fun a ha e => by have := (hO.block ha).1; omega).trans hq9
    rw [List.append_nil] at O2 c2 t9
    obtain ⟨G3, e3, h3, m3⟩ := mut_set (hget_alive t9) (.cells false [.slice p2' (L.length - k) c2', v2])
    have t9X := fun X => (Ext.refl.app (X := X)).cells t9
    simp only [n7, r7, g4, g9, g10, eq_true hkk, wk, hld, hidx, q4, q9, netV_len, netV_0, netV_1, encL_len, encL_0, encL_1, encL_2, encL_3, encL_4, encL_5, encL_6, encL_7, take_all, e2, e3, t9X, hlG, hl1, show lim ≤ A9 by have := hE.len; omega, SB, Nat.reduceLT, callee, aOp, ne_eq, Nat.reduceEqDiff, aBin, aUn, if_true, if_false, reduceCtorEq, frame0, place, notTuple, Nat.reduceAdd, Nat.reduceLeDiff, resVal, dite_true, dite_false, Int.reduceEq, Int.reduceLT, Int.reduceLE]
    exact hN (k, p2', c2') _ _ ⟨by show k ≤ L.length; omega, by rw [← g1]; exact (by simp only [FB, Nat.reduceEqDiff]), by rw [← g2]; exact (by simp only [FB, Nat.reduceEqDiff]), by rw [← g3]; exact (by simp only [FB, Nat.reduceEqDiff]), (by simp only [g4, FB, Nat.reduceEqDiff]), (by simp only [g9, FB, Nat.reduceEqDiff]), (by simp only [FB, Nat.reduceEqDiff]), (c2.mut m3 (.inl (by simp))).app, (Ext.refl.app).cells h3, (O2.mut m3 fun a e => by rw [hp2 (by simp)] at e; cases e; show G'.length + 1 ≠ A9; omega).app _⟩ (by show k < k + 1; omega)

theorem rev_legs [OB] {lim A4 A9 n1 n2 c1 c2 : Nat} {p1 p2 : Option Addr} {L : List Leg} {v1 : Value} {H G : Heap} {fr : Nat → Value} {K : List AItem} {Z : Value → Heap → Prop}
    (hs : Sl H encL 8 p2 L) (hn : L.length ≤ 200) (hl2 : n2 = L.length) (hlim : lim ≤ H.length) (hE : Chg [] H G) (h4 : hget G A4 = .cells false (netV p1 n1 c1 p2 n2 c2)) (h9 : hget G A9 = .cells false [v1, .slice none 0 0]) (h49 : A4 ≠ A9) (hA9 : H.length ≤ A9)
    (f4 : fr 4 = .pointer (some ⟨A4, 0, none⟩)) (f9 : fr 9 = .pointer (some ⟨A9, 0, none⟩)) (f10 : fr 11 = .int .i64 ((L.length : Int) - 1))
    (hR : ∀ fr' G' q cap, Chg [A9] G G' → Own G.length G' encL 8 q cap L.reverse → hget G' A9 = .cells false [v1, .slice q L.length cap] → fr' 1 = fr 1 → fr' 2 = fr 2 → fr' 3 = fr 3 → fr' 4 = fr 4 → fr' 9 = fr 9 → Ret E a7 lim K fr' (G' ++ []) Z) :
    Ret E a7 lim (.code (.loop l7_2) :: .inBlock 2 :: K) fr G Z := by
  have a4 := hget_alive h4
  have a9 := hget_alive h9
  refine Ret_rounds (fun s : Nat × Option Addr × Nat => s.1) (fun s fr' G' => s.1 ≤ L.length ∧ fr' 1 = fr 1 ∧ fr' 2 = fr 2 ∧ fr' 3 = fr 3 ∧ fr' 4 = .pointer (some ⟨A4, 0, none⟩) ∧ fr' 9 = .pointer (some ⟨A9, 0, none⟩) ∧ fr' 11 = .int .i64 ((s.1 : Int) - 1) ∧ Chg [A9] G G' ∧ hget G' A9 = .cells false [v1, .slice s.2.1 (L.length - s.1) s.2.2] ∧ Own G.length G' encL 8 s.2.1 s.2.2 (L.drop s.1).reverse) (L.length, none, 0)
    ⟨Nat.le_refl _, rfl, rfl, rfl, f4, f9, f10, Chg.refl, by simpa using h9, by rw [List.drop_length]; exact .nil⟩ ?_
  rintro ⟨k, q, cap⟩ fr' G' ⟨hk, g1, g2, g3, g4, g9, g10, hC, hq9, hO⟩ hN
  simp only at hk g10 hq9 hO
  have hl := hC.len
  have hlG : lim ≤ G'.length := by have := hE.len; omega
  rw [Ret_code l7_2.eq_1]
  refine Ret_pad ?_
  match k, hk, g10, hq9, hO, hN with
  | 0, hk, g10, hq9, hO, hN =>
    have this : ¬ (0 : Int) ≤ -1 := by decide
    replace g10 : fr' 11 = .int .i64 (-1) := g10
    simp only [n7, r7, g4, g9, g10, eq_false this, SB, Nat.reduceLT, callee, aOp, ne_eq, Nat.reduceEqDiff, aBin, aUn, if_true, if_false, reduceCtorEq, frame0, place, notTuple, Nat.reduceAdd, Nat.reduceLeDiff, resVal, dite_true, dite_false, Int.reduceEq, Int.reduceLT, Int.reduceLE]
    refine hR _ _ q cap hC hO ?_ (by rw [← g1]; exact (by simp only [FB, Nat.reduceEqDiff])) (by rw [← g2]; exact (by simp only [FB, Nat.reduceEqDiff])) (by rw [← g3]; exact (by simp only [FB, Nat.reduceEqDiff])) (by rw [f4]; exact (by simp only [g4, FB, Nat.reduceEqDiff])) (by rw [f9]; exact (by simp only [g9, FB, Nat.reduceEqDiff]))
    simpa using hq9
  | k + 1, hk, g10, hq9, hO, hN =>
    have e1 : ((k + 1 : Nat) : Int) - 1 = (k : Int) := by omega
    rw [e1] at g10
    have hkk : (0 : Int) ≤ (k : Int) := by omega
    have wk : IntKind.i64.wrap ((k : Int) - 1) = (k : Int) - 1 := wrap_id (by omega) (by omega)
    have hlt : k < L.length := by omega
    have hEG : Chg [] H G' := hE.trans' hC fun j h1 h2 => by simp only [List.mem_singleton] at h1; omega
    have hsl := hEG.ext.sl hs
    have hld := fun X => (hsl.app X).loadCells encL_len hlt
    have hidx := fun c (kk : IntKind) (H1 : Heap) => hsl.idx (c := c) (k := kk) (H1 := H1) hlt
    have q4' := hC.cells h4 (by simpa using h49)
    have q4 := fun X => (Ext.refl.app (X := X)).cells q4'
    have q9 := fun X => (Ext.refl.app (X := X)).cells hq9
    have hrl : ((L.drop (k + 1)).reverse).length = L.length - (k + 1) := by simp
    obtain ⟨G2, p2', c2', e2, O2, C2, hold2, l2, hp2, _⟩ := hO.moreD (d := G'.length + 1) (lim' := lim) (bytes := 64) (by have := hE.len; omega) encL_len (by decide) [gt L k] (by rw [hrl]; unfold maxBytes; simp; omega) (by rw [hrl]; simp; omega) (by omega) [.cells false (encL (gt L k)), .dead] (by omega) (by simp) (x := .slice (some ⟨G'.length, 0, none⟩) 1 1) (str := false)
      (first_slice (m := [gt L k]) (Sl.row encL_len (by rw [hget_new0]; simp; rfl))) rfl
    rw [hrl] at e2
    rw [← rev_drop hlt] at O2
    have ek : L.length - (k + 1) + [gt L k].length = L.length - k := by simp; omega
    rw [ek] at e2
    have c2 := C2 [A9] G (Nat.le_refl _) hC
    have t9 : hget (G2 ++ []) A9 = _ := (hold2 A9 (by omega) fun a ha e => by have := (hO.block ha).1; omega).trans hq9
    rw [List.append_nil] at O2 c2 t9
    obtain ⟨G3, e3, h3, m3⟩ := mut_set (hget_alive t9) (.cells false [v1, .slice p2' (L.length - k) c2'])
    have t9X := fun X => (Ext.refl.app (X := X)).cells t9
    simp only [n7, r7, g4, g9, g10, eq_true hkk, wk, hld, hidx, q4, q9, netV_len, netV_0, netV_1, encL_len, encL_0, encL_1, encL_2, encL_3, encL_4, encL_5, encL_6, encL_7, take_all, e2, e3, t9X, hlG, hl2, setAll_full, show lim ≤ A9 by have := hE.len; omega, SB, Nat.reduceLT, callee, aOp, ne_eq, Nat.reduceEqDiff, aBin, aUn, if_true, if_false, reduceCtorEq, frame0, place, notTuple, Nat.reduceAdd, Nat.reduceLeDiff, resVal, dite_true, dite_false, Int.reduceEq, Int.reduceLT, Int.reduceLE]
    exact hN (k, p2', c2') _ _ ⟨by show k ≤ L.length; omega, by rw [← g1]; exact (by simp only [FB, Nat.reduceEqDiff]), by rw [← g2]; exact (by simp only [FB, Nat.reduceEqDiff]), by rw [← g3]; exact (by simp only [FB, Nat.reduceEqDiff]), (by simp only [g4, FB, Nat.reduceEqDiff]), (by simp only [g9, FB, Nat.reduceEqDiff]), (by simp only [FB, Nat.reduceEqDiff]), (c2.mut m3 (.inl (by simp))).app, (Ext.refl.app).cells h3, (O2.mut m3 fun a e => by rw [hp2 (by simp)] at e; cases e; show G'.length + 1 ≠ A9; omega).app _⟩ (by show k < k + 1; omega)
end Go.Proofs.Ytcmhnincbkbncaa.Fn
namespace Go.Proofs.Ytcmhnincbkbncaa.Fn
open Go.AM Go.AM.Sym Go.Net
set_option maxRecDepth 100000
set_option linter.unusedVariables false
set_option linter.unusedSimpArgs false
set_option maxHeartbeats 4000000

/-- What a slice of numbers of one's own is read as. -/
theorem ld_ints {H : Heap} {q : Option Addr} {T : List Int} {i : Nat} (h : Sl H encI 1 q T) (hi : i < T.length) : ∀ X, AM.loadCell (H ++ X) (elt q 1 i) = some (.int .i64 (gt T i)) := fun X => by
  rw [(h.app X).loadCell0 encI_len hi (by decide)]; rfl
theorem ix_ints {H : Heap} {q : Option Addr} {T : List Int} {i n : Nat} (h : Sl H encI 1 q T) (hi : i < n) (hT : T.length = n) : ∀ (c : Nat) (k : IntKind) (H1 : Heap), idxK 1 (.slice q n c) (.int k (i : Int)) H1 = some (.pointer (some (elt q 1 i)), H1) := fun c k H1 => by
  subst hT; exact h.idx hi
theorem gt_getD {T : List Int} {i : Nat} (h : i < T.length) : gt T i = T.getD i (-1) := by
  rw [gt_lt h, List.getD_eq_getElem?_getD, List.getElem?_eq_getElem h]; rfl
theorem fits_err {P : List Int} {L : List Leg} {a b t : Int} (h : fitsP P L a b t) : errA P L a b t = 0 := by
  unfold errA
  rw [if_neg (by simpa using h.2.1), if_pos h.2.2]

def rest4 : ACode := tlC (tlC (tlC c4))
theorem c4_cut : c4 = .seq (hdC c4) (.seq (hdC (tlC c4)) (.seq (hdC (tlC (tlC c4))) rest4)) := rfl

theorem later_main [OB] {pp pl : Option Addr} {P : List Int} {L : List Leg} {cp cl : Nat} {frm a b : Int} {H G : Heap} {fr : Nat → Value} (hn : NetIn H pp pl P L) (hE : Chg [] H G) (hB : hget G H.length = .cells false (netV pp P.length cp pl L.length cl)) (hab : a ≤ b)
    (f1 : fr 1 = .int .i64 frm) (f2 : fr 2 = .int .i64 a) (f3 : fr 3 = .int .i64 b) (f4 : fr 4 = .pointer (some ⟨H.length, 0, none⟩)) : Ret E a4 H.length [.code rest4] fr (G ++ []) fun v' _ => v' = .bool true := by
  have hBX := fun X => (Ext.refl.app (X := X)).cells hB
  have hnG := hn.ext hE.ext
  have hl := hE.len
  have hft := fun X (t : Int) (mp : Bool) (lim : Nat) (Q : Value → Heap → Prop) => fits_ok (mp := mp) (lim := lim) (cp := cp) (cl := cl) (Q := Q) (a := frm) (b := frm) (t := t) (hnG.app X)
  by_cases hfa : fitsP P L frm frm a
  · by_cases hfb : fitsP P L frm frm b
    · have hea := fits_err hfa
      have heb := fits_err hfb
      obtain ⟨_, hv, hp, _, ha0, ha1⟩ := hfa
      obtain ⟨_, _, _, _, hb0, hb1⟩ := hfb
      have hno := valid_net hv
      obtain ⟨v1, v2, v3, v4⟩ := validN_0 hv
      have hfa : fitsP P L frm frm a := ⟨‹_›, hv, hp, hp, ha0, ha1⟩
      have hfb : fitsP P L frm frm b := ⟨‹_›, hv, hp, hp, hb0, hb1⟩
      simp only [rest4, c4, hdC, tlC]
      simp only [n4, r4, f1, f2, f3, f4, hBX, netV_len, netV_0, netV_1, hft, take_all, decide_eq_true hfa, decide_eq_true hfb, SB, Nat.reduceLT, callee, aOp, ne_eq, Nat.reduceEqDiff, aBin, aUn, if_true, if_false, reduceCtorEq, frame0, place, notTuple, Nat.reduceAdd, Nat.reduceLeDiff, resVal, dite_true, dite_false, Int.reduceEq, Int.reduceLT, Int.reduceLE]
      rw [List.append_nil]
      refine Arrive_ok hnG hl (fun H1 h => absurd hea h) fun H1 q1 T1 _ hC1 hT1 hO1 hl1 => ?_
      have hE1 := hE.trans hC1
      have hB1 := hC1.cells hB (by simp)
      have hB1X := fun X => (Ext.refl.app (X := X)).cells hB1
      refine Ret_pad ?_
      simp only [n4, r4, f1, f2, f3, f4, hB1X, netV_len, netV_0, netV_1, take_all, SB, Nat.reduceLT, callee, aOp, ne_eq, Nat.reduceEqDiff, aBin, aUn, if_true, if_false, reduceCtorEq, frame0, place, notTuple, Nat.reduceAdd, Nat.reduceLeDiff, resVal, dite_true, dite_false, Int.reduceEq, Int.reduceLT, Int.reduceLE]
      rw [List.append_nil]
      refine Arrive_ok (hn.ext hE1.ext) hE1.len (fun H1 h => absurd heb h) fun H2 q2 T2 _ hC2 hT2 hO2 hl2 => ?_
      have hE2 := hE1.trans hC2
      have hB2 := hC2.cells hB1 (by simp)
      have hB2X := fun X => (Ext.refl.app (X := X)).cells hB2
      refine Ret_pad ?_
      simp only [n4, r4, f1, f2, f3, f4, hB2X, netV_len, netV_0, netV_1, take_all, SB, Nat.reduceLT, callee, aOp, ne_eq, Nat.reduceEqDiff, aBin, aUn, if_true, if_false, reduceCtorEq, frame0, place, notTuple, Nat.reduceAdd, Nat.reduceLeDiff, resVal, dite_true, dite_false, Int.reduceEq, Int.reduceLT, Int.reduceLE]
      rw [List.append_nil]
      refine Leave_ok (hn.ext hE2.ext) hE2.len (fun H1 h => absurd hea h) fun H3 q3 T3 _ hC3 hT3 hO3 hl3 => ?_
      have hE3 := hE2.trans hC3
      have hB3 := hC3.cells hB2 (by simp)
      have hB3X := fun X => (Ext.refl.app (X := X)).cells hB3
      refine Ret_pad ?_
      simp only [n4, r4, f1, f2, f3, f4, hB3X, netV_len, netV_0, netV_1, take_all, SB, Nat.reduceLT, callee, aOp, ne_eq, Nat.reduceEqDiff, aBin, aUn, if_true, if_false, reduceCtorEq, frame0, place, notTuple, Nat.reduceAdd, Nat.reduceLeDiff, resVal, dite_true, dite_false, Int.reduceEq, Int.reduceLT, Int.reduceLE]
      rw [List.append_nil]
      refine Leave_ok (hn.ext hE3.ext) hE3.len (fun H1 h => absurd heb h) fun H4 q4 T4 _ hC4 hT4 hO4 hl4 => ?_
      have hE4 := hE3.trans hC4
      have hB4 := hC4.cells hB3 (by simp)
      have hS1 := hC4.ext.sl (hC3.ext.sl (hC2.ext.sl (hO1.sl encI_len)))
      have hS2 := hC4.ext.sl (hC3.ext.sl (hO2.sl encI_len))
      have hS3 := hC4.ext.sl (hO3.sl encI_len)
      have hS4 := hO4.sl encI_len
      refine Ret_pad ?_
      simp only [n4, r4, f1, f2, f3, f4, SB, Nat.reduceLT, callee, aOp, ne_eq, Nat.reduceEqDiff, aBin, aUn, if_true, if_false, reduceCtorEq, frame0, place, notTuple, Nat.reduceAdd, Nat.reduceLeDiff, resVal, dite_true, dite_false, Int.reduceEq, Int.reduceLT, Int.reduceLE]
      refine Ret_rounds (fun i => P.length - i) (fun i fr G => i ≤ P.length ∧ fr 2 = .int .i64 a ∧ fr 3 = .int .i64 b ∧ fr 4 = .pointer (some ⟨H.length, 0, none⟩) ∧ fr 9 = .slice q1 P.length (loose 1) ∧ fr 11 = .slice q2 P.length (loose 1) ∧ fr 13 = .slice q3 P.length (loose 1) ∧ fr 15 = .slice q4 P.length (loose 1) ∧ fr 17 = .int .i64 (i : Int) ∧ Ext H4 G) 0
        ⟨Nat.zero_le _, (by simp only [f2, FB, Nat.reduceEqDiff]), (by simp only [f3, FB, Nat.reduceEqDiff]), (by simp only [f4, FB, Nat.reduceEqDiff]), (by simp only [FB, Nat.reduceEqDiff]), (by simp only [FB, Nat.reduceEqDiff]), (by simp only [FB, Nat.reduceEqDiff]), (by simp only [FB, Nat.reduceEqDiff]), by rfl, Ext.refl.app⟩ ?_
      intro i fr2 G4 ⟨hi, g2, g3, g4, g9, g11, g13, g15, g17, hX⟩ hN
      have hB5X := fun X => (Ext.refl.app (X := X)).cells (hX.cells hB4)
      rw [Ret_code l4_1.eq_1]
      refine Ret_pad ?_
      by_cases hlt : i < P.length
      · have l1 := ld_ints (i := i) (hX.sl hS1) (by omega)
        have l2 := ld_ints (i := i) (hX.sl hS2) (by omega)
        have l3 := ld_ints (i := i) (hX.sl hS3) (by omega)
        have l4 := ld_ints (i := i) (hX.sl hS4) (by omega)
        have x1 := ix_ints (i := i) (hX.sl hS1) hlt hl1
        have x2 := ix_ints (i := i) (hX.sl hS2) hlt hl2
        have x3 := ix_ints (i := i) (hX.sl hS3) hlt hl3
        have x4 := ix_ints (i := i) (hX.sl hS4) hlt hl4
        have hw1 : IntKind.i64.wrap ((i : Int) + 1) = ((i + 1 : Nat) : Int) := wrap_nat (by omega)
        have hq := gt_mem hlt
        have hix : posN P (gt P i) = i := v3.idx hlt
        have m1 := hT1.2 _ hq
        have m2 := hT2.2 _ hq
        have m3 := hT3.2 _ hq
        have m4 := hT4.2 _ hq
        rw [hix, ← gt_getD (by omega)] at m1 m2 m3 m4
        have c1 : ¬ (0 ≤ gt T1 i ∧ 0 ≤ gt T2 i ∧ gt T2 i < gt T1 i) := fun ⟨_, h2, h3⟩ => by have := m1.later m2 hab h2; omega
        have c2 : ¬ (0 ≤ gt T3 i ∧ 0 ≤ gt T4 i ∧ gt T4 i < gt T3 i) := fun ⟨h1, h2, h3⟩ => by have := m3.later m4 hno.fine hab h1 h2; omega
        have c3 : ¬ (0 ≤ gt T1 i ∧ gt T1 i < a) := fun ⟨h1, h2⟩ => by have := m1.ge hno.fine h1; omega
        have c4 : ¬ b < gt T4 i := fun h => by
          have := m4.range hno.fine (by omega)
          omega
        generalize gt T1 i = x at *
        generalize gt T2 i = y at *
        generalize gt T3 i = u at *
        generalize gt T4 i = v at *
        simp only [n4, r4, g2, g3, g4, g9, g11, g13, g15, g17, hB5X, netV_len, netV_0, netV_1, hlt, l1, l2, l3, l4, x1, x2, x3, x4, hw1, SB, Nat.reduceLT, callee, aOp, ne_eq, Nat.reduceEqDiff, aBin, aUn, if_true, if_false, reduceCtorEq, frame0, place, notTuple, Nat.reduceAdd, Nat.reduceLeDiff, resVal, dite_true, dite_false, Int.reduceEq, Int.reduceLT, Int.reduceLE]
        repeat' ((first | refine wantK_dec (fun hw => ?_) (fun hw => ?_) | refine condK_dec (fun hw => ?_) (fun hw => ?_) | refine wantK_any (fun hw => ?_) (fun hw => ?_) | refine condK_any (fun hw => ?_) (fun hw => ?_)) <;> (try simp only [hw, n4, r4, g2, g3, g4, g9, g11, g13, g15, g17, hB5X, netV_len, netV_0, netV_1, hlt, l1, l2, l3, l4, x1, x2, x3, x4, hw1, SB, Nat.reduceLT, callee, aOp, ne_eq, Nat.reduceEqDiff, aBin, aUn, if_true, if_false, reduceCtorEq, frame0, place, notTuple, Nat.reduceAdd, Nat.reduceLeDiff, resVal, dite_true, dite_false, Int.reduceEq, Int.reduceLT, Int.reduceLE]))
        all_goals first
          | (exfalso; omega)
          | exact hN (i + 1) _ _ ⟨by omega, (by simp only [g2, FB, Nat.reduceEqDiff]), (by simp only [g3, FB, Nat.reduceEqDiff]), (by simp only [g4, FB, Nat.reduceEqDiff]), (by simp only [g9, FB, Nat.reduceEqDiff]), (by simp only [g11, FB, Nat.reduceEqDiff]), (by simp only [g13, FB, Nat.reduceEqDiff]), (by simp only [g15, FB, Nat.reduceEqDiff]), (by simp only [FB, Nat.reduceEqDiff]), hX.app⟩ (by omega)
      · obtain rfl : i = P.length := by omega
        simp only [n4, r4, g2, g3, g4, g9, g11, g13, g15, g17, hB5X, netV_len, netV_0, netV_1, hlt, SB, Nat.reduceLT, callee, aOp, ne_eq, Nat.reduceEqDiff, aBin, aUn, if_true, if_false, reduceCtorEq, frame0, place, notTuple, Nat.reduceAdd, Nat.reduceLeDiff, resVal, dite_true, dite_false, Int.reduceEq, Int.reduceLT, Int.reduceLE]
    · simp only [rest4, c4, hdC, tlC]
      simp only [n4, r4, f1, f2, f3, f4, hBX, netV_len, netV_0, netV_1, hft, take_all, decide_eq_true hfa, decide_eq_false hfb, SB, Nat.reduceLT, callee, aOp, ne_eq, Nat.reduceEqDiff, aBin, aUn, if_true, if_false, reduceCtorEq, frame0, place, notTuple, Nat.reduceAdd, Nat.reduceLeDiff, resVal, dite_true, dite_false, Int.reduceEq, Int.reduceLT, Int.reduceLE]
  · simp only [rest4, c4, hdC, tlC]
    simp only [n4, r4, f1, f2, f3, f4, hBX, netV_len, netV_0, netV_1, hft, take_all, decide_eq_false hfa, SB, Nat.reduceLT, callee, aOp, ne_eq, Nat.reduceEqDiff, aBin, aUn, if_true, if_false, reduceCtorEq, frame0, place, notTuple, Nat.reduceAdd, Nat.reduceLeDiff, resVal, dite_true, dite_false, Int.reduceEq, Int.reduceLT, Int.reduceLE]

theorem RouteLater_ok [OB] {mp : Bool} {lim : Nat} {pp pl : Option Addr} {P : List Int} {L : List Leg} {cp cl : Nat} {frm a b : Int} {H : Heap} {Q : Value → Heap → Prop} (hn : NetIn H pp pl P L) (hA : OB.on 21 = true) :
    CallR E mp lim 4 [.agg (netV pp P.length cp pl L.length cl).toArray, .int .i64 frm, .int .i64 a, .int .i64 b] H Q = Q (.bool true) H := by
  refine pc (by decide) e4 rfl rfl ?_
  rw [b4, c4_cut]
  simp only [c4, hdC, tlC]
  by_cases hab : b < a
  · simp only [n4, r4, awake33_on hA, hab, SB, Nat.reduceLT, callee, aOp, ne_eq, Nat.reduceEqDiff, aBin, aUn, if_true, if_false, reduceCtorEq, frame0, place, notTuple, Nat.reduceAdd, Nat.reduceLeDiff, resVal, dite_true, dite_false, Int.reduceEq, Int.reduceLT, Int.reduceLE]
    refine Ret_pad ?_
    exact later_main (frm := frm) (a := b) (b := a) hn (Chg.refl.app) hget_new0 (by omega) (by simp only [FB, Nat.reduceEqDiff]) (by simp only [FB, Nat.reduceEqDiff]) (by simp only [FB, Nat.reduceEqDiff]) (by simp only [FB, Nat.reduceEqDiff])
  · simp only [n4, r4, awake33_on hA, hab, SB, Nat.reduceLT, callee, aOp, ne_eq, Nat.reduceEqDiff, aBin, aUn, if_true, if_false, reduceCtorEq, frame0, place, notTuple, Nat.reduceAdd, Nat.reduceLeDiff, resVal, dite_true, dite_false, Int.reduceEq, Int.reduceLT, Int.reduceLE]
    refine Ret_pad ?_
    exact later_main (frm := frm) (a := a) (b := b) hn (Chg.refl.app) hget_new0 (by omega) (by simp only [FB, Nat.reduceEqDiff]) (by simp only [FB, Nat.reduceEqDiff]) (by simp only [FB, Nat.reduceEqDiff]) (by simp only [FB, Nat.reduceEqDiff])
end Go.Proofs.Ytcmhnincbkbncaa.Fn
namespace Go.Proofs.Ytcmhnincbkbncaa.Fn
open Go.AM Go.AM.Sym Go.Net
set_option maxRecDepth 100000
set_option linter.unusedVariables false
set_option linter.unusedSimpArgs false
set_option maxHeartbeats 4000000

theorem plants_iff {P : List Int} : PlantsOk P ↔ (∀ p ∈ P, 1 ≤ p ∧ p ≤ 999999) ∧ P.Nodup := by
  constructor
  · intro h
    refine ⟨fun p hp => ?_, ?_⟩
    · obtain ⟨i, hi, rfl⟩ := List.mem_iff_getElem.1 hp
      have := h i hi
      unfold pOk at this
      rw [gt_lt hi] at this
      exact ⟨this.1, this.2.1⟩
    · unfold List.Nodup
      rw [List.pairwise_iff_getElem]
      intro i j hi hj hij e
      have h2 := (h j hj).2.2
      rw [gt_lt hj] at h2
      exact h2 (List.mem_take_iff_getElem.2 ⟨i, by omega, e⟩)
  · rintro ⟨h1, h2⟩ i hi
    unfold pOk
    rw [gt_lt hi]
    refine ⟨(h1 _ (List.getElem_mem hi)).1, (h1 _ (List.getElem_mem hi)).2, fun hm => ?_⟩
    obtain ⟨j, hj, e⟩ := List.mem_take_iff_getElem.1 hm
    unfold List.Nodup at h2
    rw [List.pairwise_iff_getElem] at h2
    exact h2 j i (by omega) hi (by omega) e
theorem legs_iff {P : List Int} {L : List Leg} : LegsOk P L ↔ (∀ l ∈ L, Fine l ∧ l.frm ∈ P ∧ l.dst ∈ P) ∧ L.Pairwise (fun a b => a.id ≠ b.id) := by
  constructor
  · intro h
    refine ⟨fun l hl => ?_, legs_ids h⟩
    obtain ⟨i, hi, rfl⟩ := List.mem_iff_getElem.1 hl
    have := h i hi
    unfold lOk at this
    rw [gt_lt hi] at this
    exact ⟨this.1, this.2.2⟩
  · rintro ⟨h1, h2⟩ i hi
    unfold lOk
    rw [gt_lt hi]
    have h3 := h1 _ (List.getElem_mem hi)
    refine ⟨h3.1, fun hm => ?_, h3.2⟩
    obtain ⟨l, hl, e⟩ := List.mem_map.1 hm
    obtain ⟨j, hj, rfl⟩ := List.mem_take_iff_getElem.1 hl
    rw [List.pairwise_iff_getElem] at h2
    exact h2 j i (by omega) hi (by omega) e
theorem validN_of {P : List Int} {L : List Leg} (h1 : P.length ≤ 50) (h2 : L.length ≤ 200) (h3 : PlantsOk P) (h4 : LegsOk P L) : validN P L = 0 := by
  unfold validN
  rw [if_neg (by omega), if_neg (by simpa using h3), if_neg (by simpa using h4)]
theorem validN_perm {P P' : List Int} {L L' : List Leg} (h : validN P L = 0) (hp : P'.Perm P) (hl : L'.Perm L) : validN P' L' = 0 := by
  obtain ⟨h1, h2, h3, h4⟩ := validN_0 h
  rw [plants_iff] at h3
  rw [legs_iff] at h4
  refine validN_of (by rw [hp.length_eq]; exact h1) (by rw [hl.length_eq]; exact h2) (plants_iff.2 ⟨fun p hm => h3.1 p (hp.mem_iff.1 hm), hp.nodup_iff.2 h3.2⟩) (legs_iff.2 ⟨fun l hm => ?_, (hl.pairwise_iff (fun h e => h e.symm)).2 h4.2⟩)
  have := h4.1 l (hl.mem_iff.1 hm)
  exact ⟨this.1, hp.mem_iff.2 this.2.1, hp.mem_iff.2 this.2.2⟩
theorem ids_inj {L : List Leg} (h : L.Pairwise (fun a b => a.id ≠ b.id)) : ∀ a ∈ L, ∀ b ∈ L, a.id = b.id → a = b := by
  intro a ha b hb e
  obtain ⟨i, hi, rfl⟩ := List.mem_iff_getElem.1 ha
  obtain ⟨j, hj, rfl⟩ := List.mem_iff_getElem.1 hb
  rw [List.pairwise_iff_getElem] at h
  rcases Nat.lt_trichotomy i j with h1 | h1 | h1
  · exact absurd e (h i j hi hj h1)
  · subst h1; rfl
  · exact absurd e.symm (h j i hj hi h1)
theorem pos_rev {P : List Int} (h : PlantsOk P) (hr : PlantsOk P.reverse) {i : Nat} (hi : i < P.length) : posN P.reverse (gt P i) = P.length - 1 - i := by
  have h1 : gt P i = gt P.reverse (P.length - 1 - i) := by
    rw [gt_lt hi, gt_lt (by simp; omega), List.getElem_reverse]
    congr 1; omega
  rw [h1]
  exact hr.idx (by simp; omega)

theorem _root_.Go.AM.Sl.app2 {α : Type} {H : Heap} {enc : α → List Value} {e : Nat} {p : Option Addr} {l : List α} (h : Sl H enc e p l) : Sl (H ++ []) enc e p l := h.app []
theorem turned_loop [OB] {lim n : Nat} {x1 x2 x3 x4 : Option Addr} {T1 T2 T3 T4 : List Int} {G : Heap} {fr : Nat → Value} {K : List AItem} {Z : Value → Heap → Prop}
    (s1 : Sl G encI 1 x1 T1) (s2 : Sl G encI 1 x2 T2) (s3 : Sl G encI 1 x3 T3) (s4 : Sl G encI 1 x4 T4) (l1 : T1.length = n) (l2 : T2.length = n) (l3 : T3.length = n) (l4 : T4.length = n) (hn : n ≤ 50)
    (h : ∀ i, i < n → gt T1 i = gt T2 (n - 1 - i) ∧ gt T3 i = gt T4 (n - 1 - i))
    (f12 : fr 12 = .slice x1 n (loose 1)) (f14 : fr 14 = .slice x2 n (loose 1)) (f16 : fr 16 = .slice x3 n (loose 1)) (f18 : fr 18 = .slice x4 n (loose 1)) (f24 : fr 24 = .int .i64 0)
    (hR : ∀ fr' G', Ret E a7 lim K fr' (G' ++ []) Z) :
    Ret E a7 lim (.code (.loop l7_1) :: .inBlock 4 :: K) fr G Z := by
  refine Ret_rounds (fun i => n - i) (fun i fr' G' => i ≤ n ∧ fr' 12 = .slice x1 n (loose 1) ∧ fr' 14 = .slice x2 n (loose 1) ∧ fr' 16 = .slice x3 n (loose 1) ∧ fr' 18 = .slice x4 n (loose 1) ∧ fr' 24 = .int .i64 (i : Int) ∧ Ext G G') 0 ⟨Nat.zero_le _, f12, f14, f16, f18, f24, Ext.refl⟩ ?_
  intro i fr' G' ⟨hi, g12, g14, g16, g18, g24, hE⟩ hN
  rw [Ret_code l7_1.eq_1]
  refine Ret_pad ?_
  by_cases hlt : i < n
  case neg =>
    obtain rfl : i = n := by omega
    simp only [n7, r7, g12, g14, g16, g18, g24, hlt, SB, Nat.reduceLT, callee, aOp, ne_eq, Nat.reduceEqDiff, aBin, aUn, if_true, if_false, reduceCtorEq, frame0, place, notTuple, Nat.reduceAdd, Nat.reduceLeDiff, resVal, dite_true, dite_false, Int.reduceEq, Int.reduceLT, Int.reduceLE]
    exact hR _ _
  obtain ⟨h1, h2⟩ := h i hlt
  have e1 := ld_ints (i := i) (hE.sl s1) (by omega)
  have e2 := ld_ints (i := n - 1 - i) (hE.sl s2) (by omega)
  have e3 := ld_ints (i := i) (hE.sl s3) (by omega)
  have e4 := ld_ints (i := n - 1 - i) (hE.sl s4) (by omega)
  have y1 := ix_ints (i := i) (hE.sl s1) hlt l1
  have y2 := ix_ints (i := n - 1 - i) (n := n) (hE.sl s2) (by omega) l2
  have y3 := ix_ints (i := i) (hE.sl s3) hlt l3
  have y4 := ix_ints (i := n - 1 - i) (n := n) (hE.sl s4) (by omega) l4
  have w1 : IntKind.i64.wrap ((n : Int) - 1) = (n : Int) - 1 := wrap_id (by omega) (by omega)
  have w2 : IntKind.i64.wrap ((n : Int) - 1 - (i : Int)) = ((n - 1 - i : Nat) : Int) := by rw [wrap_id (by omega) (by omega)]; omega
  have w3 : IntKind.i64.wrap ((i : Int) + 1) = ((i + 1 : Nat) : Int) := wrap_nat (by omega)
  rw [h1] at e1
  rw [h2] at e3
  simp only [n7, r7, g12, g14, g16, g18, g24, hlt, e1, e2, e3, e4, y1, y2, y3, y4, w1, w2, w3, SB, Nat.reduceLT, callee, aOp, ne_eq, Nat.reduceEqDiff, aBin, aUn, if_true, if_false, reduceCtorEq, frame0, place, notTuple, Nat.reduceAdd, Nat.reduceLeDiff, resVal, dite_true, dite_false, Int.reduceEq, Int.reduceLT, Int.reduceLE]
  exact hN (i + 1) _ _ ⟨by omega, (by simp only [g12, FB, Nat.reduceEqDiff]), (by simp only [g14, FB, Nat.reduceEqDiff]), (by simp only [g16, FB, Nat.reduceEqDiff]), (by simp only [g18, FB, Nat.reduceEqDiff]), (by simp only [FB, Nat.reduceEqDiff]), hE.app⟩ (by omega)

theorem RouteTurned_ok [OB] {mp : Bool} {lim : Nat} {pp pl : Option Addr} {P : List Int} {L : List Leg} {cp cl : Nat} {p q t : Int} {H : Heap} {Q : Value → Heap → Prop} (hn : NetIn H pp pl P L) (hA : OB.on 21 = true) :
    CallR E mp lim 7 [.agg (netV pp P.length cp pl L.length cl).toArray, .int .i64 p, .int .i64 q, .int .i64 t] H Q = Q (.bool true) H := by
  refine pc (by decide) e7 rfl rfl ?_
  rw [b7, c7]
  have hft := fun X (mp : Bool) (lim : Nat) (Q : Value → Heap → Prop) => fits_ok (mp := mp) (lim := lim) (cp := cp) (cl := cl) (Q := Q) (a := p) (b := q) (t := t) (hn.app X)
  by_cases hf : fitsP P L p q t
  case neg => simp only [n7, r7, netV_len, netV_0, netV_1, awake33_on hA, hft, take_all, decide_eq_false hf, SB, Nat.reduceLT, callee, aOp, ne_eq, Nat.reduceEqDiff, aBin, aUn, if_true, if_false, reduceCtorEq, frame0, place, notTuple, Nat.reduceAdd, Nat.reduceLeDiff, resVal, dite_true, dite_false, Int.reduceEq, Int.reduceLT, Int.reduceLE]
  obtain ⟨_, hv, hp, hq, ht0, ht1⟩ := id hf
  obtain ⟨v1, v2, v3, v4⟩ := validN_0 hv
  have w1 : IntKind.i64.wrap ((P.length : Int) - 1) = (P.length : Int) - 1 := wrap_id (by omega) (by omega)
  have w2 : IntKind.i64.wrap ((L.length : Int) - 1) = (L.length : Int) - 1 := wrap_id (by omega) (by omega)
  simp only [n7, r7, netV_len, netV_0, netV_1, awake33_on hA, hft, take_all, decide_eq_true hf, w1, SB, Nat.reduceLT, callee, aOp, ne_eq, Nat.reduceEqDiff, aBin, aUn, if_true, if_false, reduceCtorEq, frame0, place, notTuple, Nat.reduceAdd, Nat.reduceLeDiff, resVal, dite_true, dite_false, Int.reduceEq, Int.reduceLT, Int.reduceLE]
  refine rev_plants (lim := H.length) (H := H) (A4 := H.length) (A9 := H.length + 1) hn.sp (by omega) rfl (Nat.le_refl _) (Chg.refl.app) hget_new0 hget_new (by omega) (by omega) (by simp only [FB, Nat.reduceEqDiff]) (by simp only [FB, Nat.reduceEqDiff]) (by simp only [FB, Nat.reduceEqDiff]) fun fr1 G1 q1 k1 hC1 hO1 h91 j1 j2 j3 j4 j9 => ?_
  replace j1 : fr1 1 = .int .i64 p := j1.trans (by simp only [FB, Nat.reduceEqDiff])
  replace j2 : fr1 2 = .int .i64 q := j2.trans (by simp only [FB, Nat.reduceEqDiff])
  replace j3 : fr1 3 = .int .i64 t := j3.trans (by simp only [FB, Nat.reduceEqDiff])
  replace j4 : fr1 4 = .pointer (some ⟨H.length, 0, none⟩) := j4.trans (by simp only [FB, Nat.reduceEqDiff])
  replace j9 : fr1 9 = .pointer (some ⟨H.length + 1, 0, none⟩) := j9.trans (by simp only [FB, Nat.reduceEqDiff])
  have hE1 : Chg [] H G1 := (Chg.refl.app).trans' hC1 fun j h1 h2 => by simp only [List.mem_singleton] at h1; omega
  have hl1 := hC1.len
  simp only [List.length_append, List.length_cons, List.length_nil] at hl1 hO1
  have hB1 : hget G1 H.length = .cells false (netV pp P.length cp pl L.length cl) := hC1.cells hget_new0 (by simp)
  have hB1X := fun X => (Ext.refl.app (X := X)).cells hB1
  simp only [n7, r7, j1, j2, j3, j4, j9, hB1X, netV_len, netV_0, netV_1, w2, SB, Nat.reduceLT, callee, aOp, ne_eq, Nat.reduceEqDiff, aBin, aUn, if_true, if_false, reduceCtorEq, frame0, place, notTuple, Nat.reduceAdd, Nat.reduceLeDiff, resVal, dite_true, dite_false, Int.reduceEq, Int.reduceLT, Int.reduceLE]
  refine rev_legs (lim := H.length) (H := H) (A4 := H.length) (A9 := H.length + 1) hn.sl (by omega) rfl (Nat.le_refl _) (hE1.app) ((Ext.refl.app).cells hB1) ((Ext.refl.app).cells h91) (by omega) (by omega) (by simp only [j4, FB, Nat.reduceEqDiff]) (by simp only [j9, FB, Nat.reduceEqDiff]) (by simp only [FB, Nat.reduceEqDiff]) fun fr2 G2 q2 k2 hC2 hO2 h92 i1 i2 i3 i4 i9 => ?_
  replace i1 : fr2 1 = .int .i64 p := i1.trans (by simp only [j1, FB, Nat.reduceEqDiff])
  replace i2 : fr2 2 = .int .i64 q := i2.trans (by simp only [j2, FB, Nat.reduceEqDiff])
  replace i3 : fr2 3 = .int .i64 t := i3.trans (by simp only [j3, FB, Nat.reduceEqDiff])
  replace i4 : fr2 4 = .pointer (some ⟨H.length, 0, none⟩) := i4.trans (by simp only [j4, FB, Nat.reduceEqDiff])
  replace i9 : fr2 9 = .pointer (some ⟨H.length + 1, 0, none⟩) := i9.trans (by simp only [j9, FB, Nat.reduceEqDiff])
  replace hC2 := hC2.pre
  have hl2 := hC2.len
  simp only [List.length_append, List.length_nil, Nat.add_zero] at hO2
  have hE2 : Chg [] H G2 := hE1.trans' hC2 fun j h1 h2 => by simp only [List.mem_singleton] at h1; omega
  have hB2 : hget G2 H.length = .cells false (netV pp P.length cp pl L.length cl) := hC2.cells hB1 (by simp)
  have hM2 : hget G2 (H.length + 1) = .cells false (netV q1 P.reverse.length k1 q2 L.reverse.length k2) := by rw [List.length_reverse, List.length_reverse]; exact h92
  have hB2X := fun X => (Ext.refl.app (X := X)).cells hB2
  have hM2X := fun X => (Ext.refl.app (X := X)).cells hM2
  have hOp := hO1.chg hC2 fun a e => by have := (hO1.block e).1; simp only [List.mem_singleton]; omega
  have hnM : NetIn G2 q1 q2 P.reverse L.reverse := ⟨hOp.sl encI_len, hO2.sl encL_len, by rw [List.length_reverse]; omega, by rw [List.length_reverse]; omega, fun l hl => hn.bys l (List.mem_reverse.1 hl)⟩
  have hvM : validN P.reverse L.reverse = 0 := validN_perm hv (List.reverse_perm P) (List.reverse_perm L)
  obtain ⟨u1, u2, u3, u4⟩ := validN_0 hvM
  have er : ∀ a b, a ∈ P → b ∈ P → errA P L a b t = 0 := fun a b ha hb => by
    unfold errA; rw [if_neg (by rw [hv]; decide), if_pos ⟨ha, hb, ht0, ht1⟩]
  have erM : ∀ a b, a ∈ P → b ∈ P → errA P.reverse L.reverse a b t = 0 := fun a b ha hb => by
    unfold errA; rw [if_neg (by rw [hvM]; decide), if_pos ⟨List.mem_reverse.2 ha, List.mem_reverse.2 hb, ht0, ht1⟩]
  have hsame : ∀ l, l ∈ L.reverse ↔ l ∈ L := fun l => List.mem_reverse
  have hno := valid_net hv
  simp only [n7, r7, i1, i2, i3, i4, i9, hB2X, hM2X, netV_len, netV_0, netV_1, take_all, SB, Nat.reduceLT, callee, aOp, ne_eq, Nat.reduceEqDiff, aBin, aUn, if_true, if_false, reduceCtorEq, frame0, place, notTuple, Nat.reduceAdd, Nat.reduceLeDiff, resVal, dite_true, dite_false, Int.reduceEq, Int.reduceLT, Int.reduceLE]
  rw [List.append_nil]
  refine Arrive_ok (hn.ext hE2.ext) hE2.len (fun _ h => absurd (er p p hp hp) h) fun H1 x1 T1 _ c1 hT1 o1 l1 => ?_
  have e1 := hE2.trans c1
  have b1 := c1.cells hB2 (by simp)
  have m1 := c1.cells hM2 (by simp)
  have b1X := fun X => (Ext.refl.app (X := X)).cells b1
  have m1X := fun X => (Ext.refl.app (X := X)).cells m1
  have s1 := o1.sl encI_len
  refine Ret_pad ?_
  simp only [n7, r7, i1, i2, i3, i4, i9, b1X, m1X, netV_len, netV_0, netV_1, take_all, SB, Nat.reduceLT, callee, aOp, ne_eq, Nat.reduceEqDiff, aBin, aUn, if_true, if_false, reduceCtorEq, frame0, place, notTuple, Nat.reduceAdd, Nat.reduceLeDiff, resVal, dite_true, dite_false, Int.reduceEq, Int.reduceLT, Int.reduceLE]
  rw [List.append_nil]
  refine Arrive_ok (hnM.ext c1.ext) e1.len (fun _ h => absurd (erM p p hp hp) h) fun H2 x2 T2 _ c2 hT2 o2 l2 => ?_
  have e2 := e1.trans c2
  have b2 := c2.cells b1 (by simp)
  have m2 := c2.cells m1 (by simp)
  have b2X := fun X => (Ext.refl.app (X := X)).cells b2
  have m2X := fun X => (Ext.refl.app (X := X)).cells m2
  have s2 := o2.sl encI_len
  replace s1 := c2.ext.sl s1
  have nM2 := (hnM.ext c1.ext).ext c2.ext
  refine Ret_pad ?_
  simp only [n7, r7, i1, i2, i3, i4, i9, b2X, m2X, netV_len, netV_0, netV_1, take_all, SB, Nat.reduceLT, callee, aOp, ne_eq, Nat.reduceEqDiff, aBin, aUn, if_true, if_false, reduceCtorEq, frame0, place, notTuple, Nat.reduceAdd, Nat.reduceLeDiff, resVal, dite_true, dite_false, Int.reduceEq, Int.reduceLT, Int.reduceLE]
  rw [List.append_nil]
  refine Leave_ok (hn.ext e2.ext) e2.len (fun _ h => absurd (er q q hq hq) h) fun H3 x3 T3 _ c3 hT3 o3 l3 => ?_
  have e3 := e2.trans c3
  have b3 := c3.cells b2 (by simp)
  have m3 := c3.cells m2 (by simp)
  have b3X := fun X => (Ext.refl.app (X := X)).cells b3
  have m3X := fun X => (Ext.refl.app (X := X)).cells m3
  have s3 := o3.sl encI_len
  replace s1 := c3.ext.sl s1
  replace s2 := c3.ext.sl s2
  have nM3 := nM2.ext c3.ext
  refine Ret_pad ?_
  simp only [n7, r7, i1, i2, i3, i4, i9, b3X, m3X, netV_len, netV_0, netV_1, take_all, SB, Nat.reduceLT, callee, aOp, ne_eq, Nat.reduceEqDiff, aBin, aUn, if_true, if_false, reduceCtorEq, frame0, place, notTuple, Nat.reduceAdd, Nat.reduceLeDiff, resVal, dite_true, dite_false, Int.reduceEq, Int.reduceLT, Int.reduceLE]
  rw [List.append_nil]
  refine Leave_ok nM3 e3.len (fun _ h => absurd (erM q q hq hq) h) fun H4 x4 T4 _ c4 hT4 o4 l4 => ?_
  have e4 := e3.trans c4
  have b4 := c4.cells b3 (by simp)
  have m4 := c4.cells m3 (by simp)
  have b4X := fun X => (Ext.refl.app (X := X)).cells b4
  have m4X := fun X => (Ext.refl.app (X := X)).cells m4
  have s4 := o4.sl encI_len
  replace s1 := c4.ext.sl s1
  replace s2 := c4.ext.sl s2
  replace s3 := c4.ext.sl s3
  have nM4 := nM3.ext c4.ext
  have hlr : P.reverse.length = P.length := List.length_reverse
  rw [hlr] at l2 l4
  have hcmp : ∀ i, i < P.length → gt T1 i = gt T2 (P.length - 1 - i) ∧ gt T3 i = gt T4 (P.length - 1 - i) := by
    intro i hi
    have hx := gt_mem hi
    have hx' : gt P i ∈ P.reverse := List.mem_reverse.2 hx
    have ix : posN P (gt P i) = i := v3.idx hi
    have ix' := pos_rev v3 u3 hi
    have k1 := hT1.2 _ hx
    have k2 := hT2.2 _ hx'
    have k3 := hT3.2 _ hx
    have k4 := hT4.2 _ hx'
    rw [ix, ← gt_getD (by omega)] at k1 k3
    rw [ix', ← gt_getD (by omega)] at k2 k4
    exact ⟨k1.same k2 hsame, k3.same k4 hsame⟩
  refine Ret_pad ?_
  simp only [n7, r7, i1, i2, i3, i4, i9, b4X, m4X, netV_len, netV_0, netV_1, take_all, hlr, SB, Nat.reduceLT, callee, aOp, ne_eq, Nat.reduceEqDiff, aBin, aUn, if_true, if_false, reduceCtorEq, frame0, place, notTuple, Nat.reduceAdd, Nat.reduceLeDiff, resVal, dite_true, dite_false, Int.reduceEq, Int.reduceLT, Int.reduceLE]
  rw [List.append_nil]
  refine Way_ok (hn.ext e4.ext) e4.len (fun _ h => absurd (er p q hp hq) h) (fun H5 _ hva c5 => ?_) (fun H5 v w pw cw _ c5 hv0 hva hw hwl o5 => ?_)
  · have e5 := e4.trans c5
    have m5 := c5.cells m4 (by simp)
    have m5X := fun X => (Ext.refl.app (X := X)).cells m5
    replace s1 := c5.ext.sl s1
    replace s2 := c5.ext.sl s2
    replace s3 := c5.ext.sl s3
    replace s4 := c5.ext.sl s4
    refine Ret_pad ?_
    simp only [n7, r7, i1, i2, i3, i4, i9, m5X, netV_len, netV_0, netV_1, take_all, hlr, SB, Nat.reduceLT, callee, aOp, ne_eq, Nat.reduceEqDiff, aBin, aUn, if_true, if_false, reduceCtorEq, frame0, place, notTuple, Nat.reduceAdd, Nat.reduceLeDiff, resVal, dite_true, dite_false, Int.reduceEq, Int.reduceLT, Int.reduceLE]
    rw [List.append_nil]
    have hw2 := fun Q => Way_ok (Q := Q) (lim := H.length) (cp := k1) (cl := k2) (p := p) (q := q) (ready := t) (nM4.ext c5.ext) e5.len
    rw [hlr] at hw2
    refine hw2 _ (fun _ h => absurd (erM p q hp hq) h) (fun H6 _ _ c6 => ?_) (fun H6 v' w' pw' cw' _ c6 hv0' hva' hw' hwl' o6 => ?_)
    · have hsm := fun X (mp : Bool) (lim : Nat) (Q : Value → Heap → Prop) => samestops_ok (mp := mp) (lim := lim) (Q := Q) (ca := 0) (cb := 0) (p := none) (q := none) (a := []) (b := []) (H := H6 ++ X) (show Sl _ enc3 3 none [] from rfl) (show Sl _ enc3 3 none [] from rfl) (by decide)
      simp only [List.length_nil, decide_true] at hsm
      refine Ret_pad ?_
      simp only [n7, r7, i1, i2, i3, i4, i9, hsm, SB, Nat.reduceLT, callee, aOp, ne_eq, Nat.reduceEqDiff, aBin, aUn, if_true, if_false, reduceCtorEq, frame0, place, notTuple, Nat.reduceAdd, Nat.reduceLeDiff, resVal, dite_true, dite_false, Int.reduceEq, Int.reduceLT, Int.reduceLE]
      refine turned_loop (c6.ext.sl s1).app2 (c6.ext.sl s2).app2 (c6.ext.sl s3).app2 (c6.ext.sl s4).app2 l1 l2 l3 l4 v1 hcmp (by simp only [FB, Nat.reduceEqDiff]) (by simp only [FB, Nat.reduceEqDiff]) (by simp only [FB, Nat.reduceEqDiff]) (by simp only [FB, Nat.reduceEqDiff]) (by simp only [FB, Nat.reduceEqDiff]) fun fr' G' => ?_
      simp only [n7, r7, SB, Nat.reduceLT, callee, aOp, ne_eq, Nat.reduceEqDiff, aBin, aUn, if_true, if_false, reduceCtorEq, frame0, place, notTuple, Nat.reduceAdd, Nat.reduceLeDiff, resVal, dite_true, dite_false, Int.reduceEq, Int.reduceLT, Int.reduceLE]
    · have := hva.same hva' hsame
      omega
  · have e5 := e4.trans c5
    have m5 := c5.cells m4 (by simp)
    have m5X := fun X => (Ext.refl.app (X := X)).cells m5
    replace s1 := c5.ext.sl s1
    replace s2 := c5.ext.sl s2
    replace s3 := c5.ext.sl s3
    replace s4 := c5.ext.sl s4
    have sw := o5.sl enc3_len
    refine Ret_pad ?_
    simp only [n7, r7, i1, i2, i3, i4, i9, m5X, netV_len, netV_0, netV_1, take_all, hlr, SB, Nat.reduceLT, callee, aOp, ne_eq, Nat.reduceEqDiff, aBin, aUn, if_true, if_false, reduceCtorEq, frame0, place, notTuple, Nat.reduceAdd, Nat.reduceLeDiff, resVal, dite_true, dite_false, Int.reduceEq, Int.reduceLT, Int.reduceLE]
    rw [List.append_nil]
    have hw2 := fun Q => Way_ok (Q := Q) (lim := H.length) (cp := k1) (cl := k2) (p := p) (q := q) (ready := t) (nM4.ext c5.ext) e5.len
    rw [hlr] at hw2
    refine hw2 _ (fun _ h => absurd (erM p q hp hq) h) (fun H6 _ hva' c6 => ?_) (fun H6 v' w' pw' cw' _ c6 hv0' hva' hw' hwl' o6 => ?_)
    · have := hva.same hva' hsame
      omega
    · have hvv := hva.same hva' hsame
      subst hvv
      have hww := hw.uniq hsame (ids_inj (legs_ids v4)) hw'
      subst hww
      have hsm := fun X (mp : Bool) (lim : Nat) (Q : Value → Heap → Prop) => samestops_ok (mp := mp) (lim := lim) (Q := Q) (ca := cw) (cb := cw') (p := pw) (q := pw') (a := w.map stopOf) (b := w.map stopOf) (H := H6 ++ X) ((c6.ext.sl sw).app X) ((o6.sl enc3_len).app X) (by rw [List.length_map]; omega)
      simp only [List.length_map, decide_true] at hsm
      refine Ret_pad ?_
      simp only [n7, r7, i1, i2, i3, i4, i9, hsm, SB, Nat.reduceLT, callee, aOp, ne_eq, Nat.reduceEqDiff, aBin, aUn, if_true, if_false, reduceCtorEq, frame0, place, notTuple, Nat.reduceAdd, Nat.reduceLeDiff, resVal, dite_true, dite_false, Int.reduceEq, Int.reduceLT, Int.reduceLE]
      refine turned_loop (c6.ext.sl s1).app2 (c6.ext.sl s2).app2 (c6.ext.sl s3).app2 (c6.ext.sl s4).app2 l1 l2 l3 l4 v1 hcmp (by simp only [FB, Nat.reduceEqDiff]) (by simp only [FB, Nat.reduceEqDiff]) (by simp only [FB, Nat.reduceEqDiff]) (by simp only [FB, Nat.reduceEqDiff]) (by simp only [FB, Nat.reduceEqDiff]) fun fr' G' => ?_
      simp only [n7, r7, SB, Nat.reduceLT, callee, aOp, ne_eq, Nat.reduceEqDiff, aBin, aUn, if_true, if_false, reduceCtorEq, frame0, place, notTuple, Nat.reduceAdd, Nat.reduceLeDiff, resVal, dite_true, dite_false, Int.reduceEq, Int.reduceLT, Int.reduceLE]
end Go.Proofs.Ytcmhnincbkbncaa.Fn
