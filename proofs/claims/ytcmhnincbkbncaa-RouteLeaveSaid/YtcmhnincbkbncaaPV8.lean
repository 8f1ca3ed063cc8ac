/-
  Joined texts, 8 of 9. A part of the claim that the last text states.
-/
import Derived.Test.YtcmhnincbkbncaaPV7
namespace Go.Proofs.Ytcmhnincbkbncaa.Fn
open Go.AM Go.AM.Sym Go.Net
set_option maxRecDepth 100000
set_option linter.unusedVariables false
set_option linter.unusedSimpArgs false
set_option maxHeartbeats 4000000

theorem sliceV_nil {e : Nat} : sliceV e (.slice none 0 0) none (some (.int .i64 0)) none = some (.slice none 0 0) := by
  unfold sliceV aSliceS
  have h : ¬ 0 = loose e := by unfold loose; omega
  simp only [if_neg h, bounds_V, Option.map_some, Option.map_none, unV]
  rw [bv_010 (by decide) (by decide)]
  simp
theorem sliceV_none {e b n : Nat} : sliceV e (.slice (some ⟨b, 0, none⟩) n (loose e)) none (some (.int .i64 0)) none = some (.slice (some ⟨b, 0, none⟩) 0 (loose e)) := by
  unfold sliceV aSliceS
  simp only [if_true, bounds_V, Option.map_some, Option.map_none, unV]
  rw [bv_010 (by decide) (by omega)]
  simp [addr_add]
theorem grow_ok [OB] {lim n : Nat} {H : Heap} {Q : Value → Heap → Prop} (hn : n < 2 ^ 30) (hlim : lim ≤ H.length)
    (h0 : n = 0 → ∀ X, Q (.slice none 0 0) (H ++ X)) (h1 : n ≠ 0 → ∀ z, Q (.slice (some ⟨H.length, 0, none⟩) 0 (loose 8)) (H ++ [.cells false z])) :
    CallR E false lim 104 [.slice none 0 0, .int .i64 (n : Int)] H Q := by
  refine runs' (by decide) e104 rfl ?_
  rw [b104, c104]
  have hc : ¬ (n : Int) < 0 := by omega
  have w1 : IntKind.i64.wrap (n : Int) = (n : Int) := wrap_id (by omega) (by omega)
  have w0 : IntKind.i64.wrap 0 = 0 := by decide
  by_cases hz : n = 0
  · subst hz
    simp only [n104, r104, w0, Int.sub_self, show (0 : Nat) < 2 ^ 62 by decide, SB, Nat.reduceLT, callee, aOp, ne_eq, Nat.reduceEqDiff, aBin, aUn, if_true, if_false, reduceCtorEq, frame0, place, notTuple, Nat.reduceAdd, Nat.reduceLeDiff, resVal, dite_true, dite_false, Int.reduceEq, Int.reduceLT, Int.reduceLE]
    exact h0 rfl _
  · have hp : 0 < n := by omega
    simp only [n104, r104, hc, w1, w0, Int.sub_self, Int.sub_zero, hp, show (0 : Nat) < 2 ^ 62 by decide, sliceV_nil, sliceV_none, show 0 < (n : Int) ∧ (n : Int) * 64 ≤ 2 ^ 45 ∧ (n : Int) < 2 ^ 62 by omega, SB, Nat.reduceLT, callee, aOp, ne_eq, Nat.reduceEqDiff, aBin, aUn, if_true, if_false, reduceCtorEq, frame0, place, notTuple, Nat.reduceAdd, Nat.reduceLeDiff, resVal, dite_true, dite_false, Int.reduceEq, Int.reduceLT, Int.reduceLE]
    exact h1 hz _

/-- A slice of one's own that may have been made with room. -/
def OwnZ {α : Type} (lim : Nat) (G : Heap) (enc : α → List Value) (e : Nat) (p : Option Addr) (cap : Nat) (l : List α) : Prop :=
  Own lim G enc e p cap l ∨ (l = [] ∧ cap = loose e ∧ ∃ R z, p = some ⟨R, 0, none⟩ ∧ hget G R = .cells false z ∧ lim ≤ R)
section
variable {α : Type} {lim lim' e bytes cap : Nat} {G : Heap} {enc : α → List Value} {p : Option Addr} {l : List α}
theorem OwnZ.sl (h : OwnZ lim G enc e p cap l) (he : ∀ x, (enc x).length = e) : Sl G enc e p l := by
  rcases h with h | ⟨rfl, _, R, z, rfl, h, _⟩
  · exact h.sl he
  · exact ⟨rfl, fun hh => absurd rfl hh⟩
theorem OwnZ.app (h : OwnZ lim G enc e p cap l) (X : Heap) : OwnZ lim (G ++ X) enc e p cap l := by
  rcases h with h | ⟨h1, h2, R, z, h3, h4, h5⟩
  · exact .inl (h.app X)
  · exact .inr ⟨h1, h2, R, z, h3, (Ext.refl.app).cells h4, h5⟩
theorem OwnZ.le (h : OwnZ lim G enc e p cap l) (hl : lim' ≤ lim) : OwnZ lim' G enc e p cap l := by
  rcases h with h | ⟨h1, h2, R, z, h3, h4, h5⟩
  · exact .inl (h.le hl)
  · exact .inr ⟨h1, h2, R, z, h3, h4, by omega⟩
theorem OwnZ.block (h : OwnZ lim G enc e p cap l) {a : Addr} (ha : p = some a) : lim ≤ a.block ∧ a.block < G.length := by
  rcases h with h | ⟨h1, h2, R, z, h3, h4, h5⟩
  · exact h.block ha
  · rw [h3] at ha; cases ha; exact ⟨h5, hget_alive h4⟩
theorem OwnZ.chg {A : List Nat} {H' : Heap} (h : OwnZ lim G enc e p cap l) (hc : Chg A G H') (hp : ∀ a, p = some a → a.block ∉ A) : OwnZ lim H' enc e p cap l := by
  rcases h with h | ⟨h1, h2, R, z, h3, h4, h5⟩
  · exact .inl (h.chg hc hp)
  · exact .inr ⟨h1, h2, R, z, h3, hc.cells h4 (hp _ h3), h5⟩
theorem OwnZ.capOk (h : OwnZ lim G enc e p cap l) : CapOk e cap l.length := by
  rcases h with h | ⟨rfl, rfl, R, z, h3, h4, h5⟩
  · exact h.capOk
  · exact .inl rfl
theorem OwnZ.more (h : OwnZ lim G enc e p cap l) (hll : lim' ≤ lim) (he : ∀ x, (enc x).length = e) (he0 : e ≠ 0) (m : List α) (hb : (l.length + m.length) * bytes ≤ maxBytes) (hn : l.length + m.length < 2 ^ 61) (hlG : lim ≤ G.length)
    (X : Heap) {x : Value} {str : Bool} (h1 : firstCells (G ++ X) e str x = some (m.flatMap enc)) (h2 : lenOf x = some m.length) :
    ∃ G2 p' cap', aAppend lim' none e bytes str (.slice p l.length cap) x (G ++ X) = some (.slice p' (l.length + m.length) cap', G2 ++ []) ∧ OwnZ lim (G2 ++ []) enc e p' cap' (l ++ m) ∧ (∀ A H0, H0.length ≤ lim → Chg A H0 G → Chg A H0 (G2 ++ [])) ∧
      (∀ j, j < G.length → (∀ a, p = some a → j ≠ a.block) → hget (G2 ++ []) j = hget G j) ∧ G.length ≤ G2.length := by
  rcases h with h | ⟨rfl, rfl, R, z, rfl, h4, h5⟩
  · obtain ⟨G2, p', cap', k1, k2, k3⟩ := h.more (lim' := lim') (bytes := bytes) hll he he0 m hb hn hlG X h1 h2
    exact ⟨G2, p', cap', k1, .inl k2, k3⟩
  · have hRl := hget_alive h4
    have hR' : hget (G ++ X) R = .cells false z := by rw [hget_old hRl]; exact h4
    by_cases hm : m = []
    · subst hm
      refine ⟨G ++ X, some ⟨R, 0, none⟩, loose e, ?_, by rw [List.append_nil]; exact .inr ⟨rfl, rfl, R, z, rfl, hR', h5⟩, fun A H0 q1 q2 => by rw [List.append_nil]; exact q2.app, fun j hj _ => by rw [List.append_nil, hget_old hj], by simp⟩
      simp only [List.length_nil, Nat.add_zero] at hb hn h2 ⊢
      simp only [aAppend, h1, h2, Nat.add_zero, if_true, List.append_nil]
      rw [if_neg (by unfold loose; omega)]
    · have hm0 : ¬ m.length = 0 := fun q => hm (List.length_eq_zero_iff.1 q)
      have hold : AM.loadCells (G ++ X) ⟨R, 0, none⟩ (0 * e) = some [] := by
        simp only [loadCells_lit, hR', Nat.zero_mul, Nat.add_zero, Nat.zero_le, if_true, List.take_zero]
      have hmt : Mut G (G.set R .dead) R := ⟨by simp, fun j hj => hget_set_ne hj⟩
      refine ⟨G.set R .dead ++ (X ++ [.cells false (m.flatMap enc)]), some ⟨(G ++ X).length, 0, none⟩, loose e, ?_, .inl ?_, fun A H0 q1 q2 => by rw [List.append_nil]; exact (q2.mut hmt (.inr (by omega))).app, fun j hj hp => by
        rw [List.append_nil, hget_old (by simpa using hj)]; exact hget_set_ne (hp _ rfl), by simp⟩
      · simp only [List.length_nil, Nat.zero_add] at hb hn ⊢
        simp only [aAppend, h1, h2, hold, hR', hm0, if_false, if_true, Nat.zero_add]
        rw [if_neg (by unfold loose; omega)]
        simp [show lim' ≤ R by omega, place, List.set_append_left _ _ hRl, List.append_assoc]
      · rw [List.append_nil, List.nil_append]
        refine Own.new ?_ (by simp; omega)
        rw [← List.append_assoc, show (G ++ X).length = (G.set R .dead ++ X).length by simp]; exact hget_new0
end

theorem concat_tail [OB] {lim B c1 c2 cap : Nat} {o : Bool} {q p1 p2 : Option Addr} {m1 m2 : List Leg} {H G : Heap} {fr : Nat → Value} {K : List AItem} {Z : Value → Heap → Prop} (hB : hget H B = .cells o [.slice p1 m1.length c1, .slice p2 m2.length c2]) (s1 : Sl H encL 8 p1 m1) (s2 : Sl H encL 8 p2 m2) (hn : m1.length + m2.length < 2 ^ 20) (hlim : lim ≤ H.length)
    (hE : Chg [] H G) (hO : OwnZ H.length G encL 8 q cap []) (f6 : fr 6 = .slice q 0 cap) (f25 : fr 25 = .slice (some ⟨B, 0, none⟩) 2 2) (f26 : fr 26 = .int .i64 2) (f27 : fr 27 = .int .i64 0)
    (hR : ∀ fr' G' q' cap', Chg [] H G' → OwnZ H.length G' encL 8 q' cap' (m1 ++ m2) → fr' 6 = .slice q' (m1.length + m2.length) cap' → Ret E a70 lim K fr' (G' ++ []) Z) :
    Ret E a70 lim (.code (.loop l70_1) :: .inBlock 2 :: K) fr G Z := by
  have i0 : ∀ k (H1 : Heap), idxK 1 (.slice (some ⟨B, 0, none⟩) 2 2) (.int k 0) H1 = some (.pointer (some ⟨B, 0, none⟩), H1) := fun k H1 => by simp [idxK, addr_add]
  have i1 : ∀ k (H1 : Heap), idxK 1 (.slice (some ⟨B, 0, none⟩) 2 2) (.int k 1) H1 = some (.pointer (some ⟨B, 1, none⟩), H1) := fun k H1 => by simp [idxK, addr_add]
  have w3 : IntKind.i64.wrap (0 + 1) = 1 := by decide
  have w4 : IntKind.i64.wrap (1 + 1) = 2 := by decide
  have hBX := fun X => (Ext.refl.app (X := X)).cells (hE.cells hB (by simp))
  have hl := hE.len
  obtain ⟨G2, q2, k2, e2, O2, C2, _, l2⟩ := hO.more (lim' := lim) (bytes := 64) hlim encL_len (by decide) m1 (by unfold maxBytes; simp; omega) (by simp; omega) hl [] (x := .slice p1 m1.length c1) (str := false) (first_slice ((hE.ext.sl s1).app _)) rfl
  have E2 := C2 [] H (Nat.le_refl _) hE
  rw [List.append_nil] at E2 O2
  have hBX2 := fun X => (Ext.refl.app (X := X)).cells (E2.cells hB (by simp))
  obtain ⟨G3, q3, k3, e3, O3, C3, _, l3⟩ := O2.more (lim' := lim) (bytes := 64) hlim encL_len (by decide) m2 (by unfold maxBytes; simp; omega) (by simp; omega) (by omega) [] (x := .slice p2 m2.length c2) (str := false) (first_slice ((E2.ext.sl s2).app _)) rfl
  have E3 := C3 [] H (Nat.le_refl _) E2
  rw [List.append_nil] at E3 O3
  simp only [List.length_nil, Nat.zero_add, List.nil_append] at e2 e3 O3
  refine Ret_pad ?_
  rw [Ret_loop, Ret_code l70_1.eq_1]
  simp only [n70, r70, f6, f25, f26, f27, hBX, i0, w3, e2, SB, Nat.reduceLT, callee, aOp, ne_eq, Nat.reduceEqDiff, aBin, aUn, if_true, if_false, reduceCtorEq, frame0, place, notTuple, Nat.reduceAdd, Nat.reduceLeDiff, resVal, dite_true, dite_false, Int.reduceEq, Int.reduceLT, Int.reduceLE]
  rw [Ret_inLoop, Ret_code l70_1.eq_1]
  simp only [n70, r70, f6, f25, f26, f27, hBX2, i1, w4, e3, SB, Nat.reduceLT, callee, aOp, ne_eq, Nat.reduceEqDiff, aBin, aUn, if_true, if_false, reduceCtorEq, frame0, place, notTuple, Nat.reduceAdd, Nat.reduceLeDiff, resVal, dite_true, dite_false, Int.reduceEq, Int.reduceLT, Int.reduceLE]
  rw [Ret_inLoop, Ret_code l70_1.eq_1]
  simp only [n70, r70, f6, f25, f26, f27, SB, Nat.reduceLT, callee, aOp, ne_eq, Nat.reduceEqDiff, aBin, aUn, if_true, if_false, reduceCtorEq, frame0, place, notTuple, Nat.reduceAdd, Nat.reduceLeDiff, resVal, dite_true, dite_false, Int.reduceEq, Int.reduceLT, Int.reduceLE]
  exact hR _ _ _ _ E3 O3 (by simp only [FB, Nat.reduceEqDiff])

theorem concat_ok [OB] {lim B c1 c2 : Nat} {o : Bool} {p1 p2 : Option Addr} {m1 m2 : List Leg} {H : Heap} {Q : Value → Heap → Prop} (hB : hget H B = .cells o [.slice p1 m1.length c1, .slice p2 m2.length c2]) (s1 : Sl H encL 8 p1 m1) (s2 : Sl H encL 8 p2 m2) (hn : m1.length + m2.length < 2 ^ 20) (hlim : lim ≤ H.length)
    (hQ : ∀ H' q cap, Chg [] H H' → OwnZ H.length H' encL 8 q cap (m1 ++ m2) → Q (.slice q (m1.length + m2.length) cap) H') :
    CallR E false lim 70 [.slice (some ⟨B, 0, none⟩) 2 2] H Q := by
  refine runs' (by decide) e70 rfl ?_
  rw [b70, c70]
  have hBX := fun X => (Ext.refl.app (X := X)).cells hB
  have w1 : IntKind.i64.wrap (0 + (m1.length : Int)) = (m1.length : Int) := by rw [Int.zero_add]; exact wrap_id (by omega) (by omega)
  have w2 : IntKind.i64.wrap ((m1.length : Int) + (m2.length : Int)) = ((m1.length + m2.length : Nat) : Int) := by rw [wrap_id (by omega) (by omega)]; omega
  have n1 : ¬ (m1.length : Int) < 0 := by omega
  have n2 : ¬ ((m1.length + m2.length : Nat) : Int) < 0 := by omega
  have i0 : ∀ k (H1 : Heap), idxK 1 (.slice (some ⟨B, 0, none⟩) 2 2) (.int k 0) H1 = some (.pointer (some ⟨B, 0, none⟩), H1) := fun k H1 => by simp [idxK, addr_add]
  have i1 : ∀ k (H1 : Heap), idxK 1 (.slice (some ⟨B, 0, none⟩) 2 2) (.int k 1) H1 = some (.pointer (some ⟨B, 1, none⟩), H1) := fun k H1 => by simp [idxK, addr_add]
  have w3 : IntKind.i64.wrap (0 + 1) = 1 := by decide
  have w4 : IntKind.i64.wrap (1 + 1) = 2 := by decide
  simp only [n70, r70, SB, Nat.reduceLT, callee, aOp, ne_eq, Nat.reduceEqDiff, aBin, aUn, if_true, if_false, reduceCtorEq, frame0, place, notTuple, Nat.reduceAdd, Nat.reduceLeDiff, resVal, dite_true, dite_false, Int.reduceEq, Int.reduceLT, Int.reduceLE]
  rw [Ret_loop, Ret_code l70_2.eq_1]
  simp only [n70, r70, hBX, i0, w1, w3, n1, SB, Nat.reduceLT, callee, aOp, ne_eq, Nat.reduceEqDiff, aBin, aUn, if_true, if_false, reduceCtorEq, frame0, place, notTuple, Nat.reduceAdd, Nat.reduceLeDiff, resVal, dite_true, dite_false, Int.reduceEq, Int.reduceLT, Int.reduceLE]
  rw [Ret_inLoop, Ret_code l70_2.eq_1]
  simp only [n70, r70, hBX, i1, w2, w4, n2, SB, Nat.reduceLT, callee, aOp, ne_eq, Nat.reduceEqDiff, aBin, aUn, if_true, if_false, reduceCtorEq, frame0, place, notTuple, Nat.reduceAdd, Nat.reduceLeDiff, resVal, dite_true, dite_false, Int.reduceEq, Int.reduceLT, Int.reduceLE]
  rw [Ret_inLoop, Ret_code l70_2.eq_1]
  simp only [n70, r70, SB, Nat.reduceLT, callee, aOp, ne_eq, Nat.reduceEqDiff, aBin, aUn, if_true, if_false, reduceCtorEq, frame0, place, notTuple, Nat.reduceAdd, Nat.reduceLeDiff, resVal, dite_true, dite_false, Int.reduceEq, Int.reduceLT, Int.reduceLE]
  rw [List.append_nil]
  refine grow_ok (by omega) hlim (fun h0 X => ?_) (fun h0 z => ?_)
  · refine Ret_pad ?_
    simp only [n70, r70, SB, Nat.reduceLT, callee, aOp, ne_eq, Nat.reduceEqDiff, aBin, aUn, if_true, if_false, reduceCtorEq, frame0, place, notTuple, Nat.reduceAdd, Nat.reduceLeDiff, resVal, dite_true, dite_false, Int.reduceEq, Int.reduceLT, Int.reduceLE]
    refine concat_tail (c1 := c1) (c2 := c2) (o := o) hB s1 s2 hn hlim (Chg.refl.app) (.inl .nil) (by simp only [FB, Nat.reduceEqDiff]) (by simp only [FB, Nat.reduceEqDiff]) (by simp only [FB, Nat.reduceEqDiff]) (by simp only [FB, Nat.reduceEqDiff]) fun fr' G' q' cap' hC hO g6 => ?_
    simp only [n70, r70, g6, SB, Nat.reduceLT, callee, aOp, ne_eq, Nat.reduceEqDiff, aBin, aUn, if_true, if_false, reduceCtorEq, frame0, place, notTuple, Nat.reduceAdd, Nat.reduceLeDiff, resVal, dite_true, dite_false, Int.reduceEq, Int.reduceLT, Int.reduceLE]
    exact hQ _ _ _ hC.app (hO.app _)
  · refine Ret_pad ?_
    simp only [n70, r70, SB, Nat.reduceLT, callee, aOp, ne_eq, Nat.reduceEqDiff, aBin, aUn, if_true, if_false, reduceCtorEq, frame0, place, notTuple, Nat.reduceAdd, Nat.reduceLeDiff, resVal, dite_true, dite_false, Int.reduceEq, Int.reduceLT, Int.reduceLE]
    refine concat_tail (c1 := c1) (c2 := c2) (o := o) hB s1 s2 hn hlim (Chg.refl.app) (.inr ⟨rfl, rfl, _, z, rfl, hget_new0, Nat.le_refl _⟩) (by simp only [FB, Nat.reduceEqDiff]) (by simp only [FB, Nat.reduceEqDiff]) (by simp only [FB, Nat.reduceEqDiff]) (by simp only [FB, Nat.reduceEqDiff]) fun fr' G' q' cap' hC hO g6 => ?_
    simp only [n70, r70, g6, SB, Nat.reduceLT, callee, aOp, ne_eq, Nat.reduceEqDiff, aBin, aUn, if_true, if_false, reduceCtorEq, frame0, place, notTuple, Nat.reduceAdd, Nat.reduceLeDiff, resVal, dite_true, dite_false, Int.reduceEq, Int.reduceLT, Int.reduceLE]
    exact hQ _ _ _ hC.app (hO.app _)

/-- Without: the error, or the network without the leg, in slices of its own. -/
theorem Without_ok [OB] {lim : Nat} {pp pl : Option Addr} {P : List Int} {L : List Leg} {cp cl : Nat} {t : Int} {H : Heap} {Q : Value → Heap → Prop} (hn : NetIn H pp pl P L) (hc : CapOk 8 cl L.length) (hP : P ≠ []) (hlim : lim ≤ H.length) (hv : validN P L = 0) (ht : ∃ l ∈ L, l.id = t)
    (hok : ∀ H' qp ql cql, Chg [] H H' → Own H.length H' encI 1 qp (loose 1) P → OwnZ H.length H' encL 8 ql cql (L.take (L.findIdx fun l => l.id = t) ++ L.drop (L.findIdx (fun l => l.id = t) + 1)) → Q (.tuple #[.agg (netV qp P.length (loose 1) ql (L.length - 1) cql).toArray, .int .i64 0]) H') :
    CallR E false lim 27 [.agg (netV pp P.length cp pl L.length cl).toArray, .int .i64 t] H Q := by
  refine runs' (by decide) e27 rfl ?_
  rw [b27, c27]
  obtain ⟨v1, v2, v3, v4⟩ := validN_0 hv
  have hvd := fun X (mp : Bool) (lim : Nat) (Q : Value → Heap → Prop) => valid_ok (mp := mp) (lim := lim) (cp := cp) (cl := cl) (Q := Q) (hn.app X)
  rw [hv] at hvd
  have hix := fun X (mp : Bool) (lim : Nat) (Q : Value → Heap → Prop) => legindex_ok (mp := mp) (lim := lim) (A := H.length + 1) (o := false) (t := t) (cap := cl) (Q := Q) (H := H ++ .cells false (netV pp P.length cp pl L.length cl) :: .cells false [.int .i64 t] :: X) (by rw [hget_new]; rfl) (hn.sl.app _) (by omega)
  have hat : legAt L t = ((L.findIdx fun l => l.id = t : Nat) : Int) := if_pos ht
  have hil : L.findIdx (fun l => l.id = t) < L.length := by
    rw [List.findIdx_lt_length]
    obtain ⟨l, h1, h2⟩ := ht
    exact ⟨l, h1, by simpa using h2⟩
  rw [hat] at hix
  generalize L.findIdx (fun l => decide (l.id = t)) = i at *
  have hineg : ¬ (i : Int) < 0 := by omega
  have w1 : IntKind.i64.wrap ((i : Int) + 1) = ((i + 1 : Nat) : Int) := wrap_nat (by omega)
  obtain ⟨q1, k1, x1, s1, _, _, _⟩ := slice_cut (vlo := none) (vhi := some (.int .i64 (i : Int))) (lo := 0) (hi := i) hn.sl hc encL_len (fun cap hcap => by rw [bv_010 (by omega) (by omega), Int.toNat_natCast]) (Nat.zero_le _) (by omega) (by omega)
  obtain ⟨q2, k2, x2, s2, _, _, _⟩ := slice_cut (vlo := some (.int .i64 ((i + 1 : Nat) : Int))) (vhi := none) (lo := i + 1) (hi := L.length) hn.sl hc encL_len (fun cap hcap => by rw [bv_100 (by omega) (by omega), Int.toNat_natCast]) (by omega) (Nat.le_refl _) (by omega)
  rw [List.drop_zero] at s1
  rw [List.take_length] at s2
  simp only [Nat.sub_zero] at x1
  simp only [n27, r27, hvd, netV_len, netV_0, netV_1, take_all, hix, hineg, w1, x1, x2, SB, Nat.reduceLT, callee, aOp, ne_eq, Nat.reduceEqDiff, aBin, aUn, if_true, if_false, reduceCtorEq, frame0, place, notTuple, Nat.reduceAdd, Nat.reduceLeDiff, resVal, dite_true, dite_false, Int.reduceEq, Int.reduceLT, Int.reduceLE]
  refine clone_ok (hn.sp.app _) hP (by omega) fun H3 q3 hE3 hO3 => ?_
  obtain ⟨Y, rfl⟩ := hE3
  refine Ret_pad ?_
  simp only [n27, r27, SB, Nat.reduceLT, callee, aOp, ne_eq, Nat.reduceEqDiff, aBin, aUn, if_true, if_false, reduceCtorEq, frame0, place, notTuple, Nat.reduceAdd, Nat.reduceLeDiff, resVal, dite_true, dite_false, Int.reduceEq, Int.reduceLT, Int.reduceLE]
  have e1 : (L.take i).length = i := by rw [List.length_take]; omega
  have e2 : (L.drop (i + 1)).length = L.length - (i + 1) := by rw [List.length_drop]
  generalize hd : (Blk.cells false [.slice q1 i k1, .slice q2 (L.length - (i + 1)) k2]) = d
  generalize hG : H ++ .cells false (netV pp P.length cp pl L.length cl) :: .cells false [.int .i64 t] :: .cells false [.slice none 0 0, .slice none 0 0] :: d :: (Y ++ []) = G
  have hEG : Ext H G := ⟨_, hG.symm⟩
  have hGl : H.length + 4 ≤ G.length := by rw [← hG]; simp
  have hG3 : hget G (H.length + 3) = d := by rw [← hG, hget_new]; rfl
  have hG2 : hget G (H.length + 2) = .cells false [.slice none 0 0, .slice none 0 0] := by rw [← hG, hget_new]; rfl
  have hm : Mut ((H ++ [Blk.cells false (netV pp P.length cp pl L.length cl), Blk.cells false [.int .i64 t], Blk.cells false [.slice none 0 0, .slice none 0 0], Blk.dead]) ++ Y) G (H.length + 3) := by
    have e : G = ((H ++ [Blk.cells false (netV pp P.length cp pl L.length cl), Blk.cells false [.int .i64 t], Blk.cells false [.slice none 0 0, .slice none 0 0], Blk.dead]) ++ Y).set (H.length + 3) d := by
      rw [← hG, List.append_assoc, set_new]; simp
    rw [e]; exact ⟨by simp, fun j hj => hget_set_ne hj⟩
  simp only [List.length_append, List.length_cons, List.length_nil] at hO3
  have hO := hO3.mut hm fun a e => by have := (hO3.block e).1; omega
  have hcc := fun Q => concat_ok (lim := lim) (Q := Q) (B := H.length + 3) (o := false) (p1 := q1) (c1 := k1) (m1 := L.take i) (p2 := q2) (c2 := k2) (m2 := L.drop (i + 1)) (H := G) (by rw [hG3, ← hd, e1, e2]) (hEG.sl s1) (hEG.sl s2) (by omega) (by omega)
  rw [e1, e2] at hcc
  refine hcc _ fun H5 q5 c5 hC5 hO5 => ?_
  have hl5 := hC5.len
  obtain ⟨H6, e6, h6, m6⟩ := mut_set (hget_alive (hC5.cells hG2 (by simp))) (.cells false [.slice q3 P.length (loose 1), .slice q5 (i + (L.length - (i + 1))) c5])
  have hG2X := fun X => (Ext.refl.app (X := X)).cells (hC5.cells hG2 (by simp))
  have h6X := fun X => (Ext.refl.app (X := X)).cells h6
  have ei : i + (L.length - (i + 1)) = L.length - 1 := by omega
  rw [ei] at e6 h6 h6X
  refine Ret_pad ?_
  simp only [n27, r27, hG2X, e6, h6X, ei, show lim ≤ H.length + 2 by omega, SB, Nat.reduceLT, callee, aOp, ne_eq, Nat.reduceEqDiff, aBin, aUn, if_true, if_false, reduceCtorEq, frame0, place, notTuple, Nat.reduceAdd, Nat.reduceLeDiff, resVal, dite_true, dite_false, Int.reduceEq, Int.reduceLT, Int.reduceLE]
  refine hok _ q3 q5 c5 ((((hEG.chg).trans hC5).mut m6 (.inr (by omega))).app) ?_ ?_
  · exact (((hO.chg hC5 (by simp)).mut m6 fun a e => by have := (hO.block e).1; omega).le (by omega)).app _
  · have hc6 : Chg [H.length + 2] H5 H6 := Chg.refl.mut m6 (.inl (by simp))
    exact ((hO5.chg hc6 fun a e => by have := (hO5.block e).1; simp only [List.mem_singleton]; omega).le (by omega)).app _
end Go.Proofs.Ytcmhnincbkbncaa.Fn
namespace Go.Proofs.Ytcmhnincbkbncaa.Fn
open Go.AM Go.AM.Sym Go.Net
set_option maxRecDepth 100000
set_option linter.unusedVariables false
set_option linter.unusedSimpArgs false
set_option maxHeartbeats 4000000

theorem samelegs_eqv {a b : Leg} : aEq (.agg [.int .i64, .int .i64, .int .i64, .int .i64, .int .i64, .int .i64, .int .i64, .int .u8]) (.agg (encL a).toArray) (.agg (encL b).toArray) = some (decide (a = b)) := by
  simp only [aEq, encL, cellsEq, cellEq, and_self, if_true]
  congr 1
  rw [Bool.eq_iff_iff]
  cases a; cases b
  simp [and_assoc]
def encS (s : Int × Int × Int) : List Value := enc3 s
theorem stop_eqv {a b : Int × Int × Int} : aEq (.agg [.int .i64, .int .i64, .int .i64]) (.agg (enc3 a).toArray) (.agg (enc3 b).toArray) = some (decide (a = b)) := by
  simp only [aEq, enc3, cellsEq, cellEq, and_self, if_true]
  congr 1
  rw [Bool.eq_iff_iff]
  obtain ⟨a1, a2, a3⟩ := a
  obtain ⟨b1, b2, b3⟩ := b
  simp [and_assoc]

theorem samestops_ok [OB] {mp : Bool} {lim ca cb : Nat} {p q : Option Addr} {a b : List (Int × Int × Int)} {H : Heap} {Q : Value → Heap → Prop} (ha : Sl H enc3 3 p a) (hb : Sl H enc3 3 q b) (hn : a.length < 2 ^ 62) :
    CallR E mp lim 31 [.slice p a.length ca, .slice q b.length cb] H Q = Q (.bool (decide (a = b))) H := by
  refine pc (by decide) e31 rfl rfl ?_
  rw [b31, c31]
  by_cases hl : a.length = b.length
  case neg =>
    have h1 : ¬ (a.length : Int) = (b.length : Int) := by omega
    simp only [n31, r31, eq_false h1, SB, Nat.reduceLT, callee, aOp, ne_eq, Nat.reduceEqDiff, aBin, aUn, if_true, if_false, reduceCtorEq, frame0, place, notTuple, Nat.reduceAdd, Nat.reduceLeDiff, resVal, dite_true, dite_false, Int.reduceEq, Int.reduceLT, Int.reduceLE]
    congr 1
    rw [eq_comm, decide_eq_false_iff_not]
    rintro rfl
    exact hl rfl
  have h1 : (a.length : Int) = (b.length : Int) := by omega
  simp only [n31, r31, eq_true h1, SB, Nat.reduceLT, callee, aOp, ne_eq, Nat.reduceEqDiff, aBin, aUn, if_true, if_false, reduceCtorEq, frame0, place, notTuple, Nat.reduceAdd, Nat.reduceLeDiff, resVal, dite_true, dite_false, Int.reduceEq, Int.reduceLT, Int.reduceLE]
  refine Ret_rounds (fun j => a.length - j) (fun j fr G => j ≤ a.length ∧ fr 0 = .slice p a.length ca ∧ fr 1 = .slice q b.length cb ∧ fr 5 = .int .i64 (j : Int) ∧ Ext H G ∧ ∀ i, i < j → gt a i = gt b i) 0 ⟨Nat.zero_le _, (by simp only [FB, Nat.reduceEqDiff]), (by simp only [FB, Nat.reduceEqDiff]), by rfl, Ext.refl.app, fun i hi => by omega⟩ ?_
  intro j fr G ⟨hj, f0, f1, f5, hE, hall⟩ hN
  rw [Ret_code l31_1.eq_1]
  refine Ret_pad ?_
  by_cases hlt : j < a.length
  case neg =>
    obtain rfl : j = a.length := by omega
    simp only [n31, r31, f0, f1, f5, hlt, SB, Nat.reduceLT, callee, aOp, ne_eq, Nat.reduceEqDiff, aBin, aUn, if_true, if_false, reduceCtorEq, frame0, place, notTuple, Nat.reduceAdd, Nat.reduceLeDiff, resVal, dite_true, dite_false, Int.reduceEq, Int.reduceLT, Int.reduceLE]
    rw [decide_eq_true (same_all hl hall)]
  have l1 := fun X => ((hE.sl ha).app X).loadCells enc3_len hlt
  have l2 := fun X => ((hE.sl hb).app X).loadCells enc3_len (by omega : j < b.length)
  have x1 := fun c (kk : IntKind) (H1 : Heap) => (hE.sl ha).idx (c := c) (k := kk) (H1 := H1) hlt
  have x2 := fun c (kk : IntKind) (H1 : Heap) => (hE.sl hb).idx (c := c) (k := kk) (H1 := H1) (by omega : j < b.length)
  have hw1 : IntKind.i64.wrap ((j : Int) + 1) = ((j + 1 : Nat) : Int) := wrap_nat (by omega)
  have hq := stop_eqv (a := gt a j) (b := gt b j)
  by_cases he : gt a j = gt b j
  · rw [decide_eq_true he] at hq
    simp only [n31, r31, f0, f1, f5, hlt, l1, l2, x1, x2, hw1, hq, SB, Nat.reduceLT, callee, aOp, ne_eq, Nat.reduceEqDiff, aBin, aUn, if_true, if_false, reduceCtorEq, frame0, place, notTuple, Nat.reduceAdd, Nat.reduceLeDiff, resVal, dite_true, dite_false, Int.reduceEq, Int.reduceLT, Int.reduceLE]
    exact hN (j + 1) _ _ ⟨by omega, (by simp only [f0, FB, Nat.reduceEqDiff]), (by simp only [f1, FB, Nat.reduceEqDiff]), (by simp only [FB, Nat.reduceEqDiff]), hE.app, same_step hl hlt hall he⟩ (by omega)
  · rw [decide_eq_false he] at hq
    simp only [n31, r31, f0, f1, f5, hlt, l1, l2, x1, x2, hw1, hq, SB, Nat.reduceLT, callee, aOp, ne_eq, Nat.reduceEqDiff, aBin, aUn, if_true, if_false, reduceCtorEq, frame0, place, notTuple, Nat.reduceAdd, Nat.reduceLeDiff, resVal, dite_true, dite_false, Int.reduceEq, Int.reduceLT, Int.reduceLE]
    rw [decide_eq_false]
    rintro rfl
    exact he rfl
theorem samelegs_ok [OB] {mp : Bool} {lim ca cb : Nat} {p q : Option Addr} {a b : List Leg} {H : Heap} {Q : Value → Heap → Prop} (ha : Sl H encL 8 p a) (hb : Sl H encL 8 q b) (hn : a.length < 2 ^ 62) :
    CallR E mp lim 29 [.slice p a.length ca, .slice q b.length cb] H Q = Q (.bool (decide (a = b))) H := by
  refine pc (by decide) e29 rfl rfl ?_
  rw [b29, c29]
  by_cases hl : a.length = b.length
  case neg =>
    have h1 : ¬ (a.length : Int) = (b.length : Int) := by omega
    simp only [n29, r29, eq_false h1, SB, Nat.reduceLT, callee, aOp, ne_eq, Nat.reduceEqDiff, aBin, aUn, if_true, if_false, reduceCtorEq, frame0, place, notTuple, Nat.reduceAdd, Nat.reduceLeDiff, resVal, dite_true, dite_false, Int.reduceEq, Int.reduceLT, Int.reduceLE]
    congr 1
    rw [eq_comm, decide_eq_false_iff_not]
    rintro rfl
    exact hl rfl
  have h1 : (a.length : Int) = (b.length : Int) := by omega
  simp only [n29, r29, eq_true h1, SB, Nat.reduceLT, callee, aOp, ne_eq, Nat.reduceEqDiff, aBin, aUn, if_true, if_false, reduceCtorEq, frame0, place, notTuple, Nat.reduceAdd, Nat.reduceLeDiff, resVal, dite_true, dite_false, Int.reduceEq, Int.reduceLT, Int.reduceLE]
  refine Ret_rounds (fun j => a.length - j) (fun j fr G => j ≤ a.length ∧ fr 0 = .slice p a.length ca ∧ fr 1 = .slice q b.length cb ∧ fr 5 = .int .i64 (j : Int) ∧ Ext H G ∧ ∀ i, i < j → gt a i = gt b i) 0 ⟨Nat.zero_le _, (by simp only [FB, Nat.reduceEqDiff]), (by simp only [FB, Nat.reduceEqDiff]), by rfl, Ext.refl.app, fun i hi => by omega⟩ ?_
  intro j fr G ⟨hj, f0, f1, f5, hE, hall⟩ hN
  rw [Ret_code l29_1.eq_1]
  refine Ret_pad ?_
  by_cases hlt : j < a.length
  case neg =>
    obtain rfl : j = a.length := by omega
    simp only [n29, r29, f0, f1, f5, hlt, SB, Nat.reduceLT, callee, aOp, ne_eq, Nat.reduceEqDiff, aBin, aUn, if_true, if_false, reduceCtorEq, frame0, place, notTuple, Nat.reduceAdd, Nat.reduceLeDiff, resVal, dite_true, dite_false, Int.reduceEq, Int.reduceLT, Int.reduceLE]
    rw [decide_eq_true (same_all hl hall)]
  have l1 := fun X => ((hE.sl ha).app X).loadCells encL_len hlt
  have l2 := fun X => ((hE.sl hb).app X).loadCells encL_len (by omega : j < b.length)
  have x1 := fun c (kk : IntKind) (H1 : Heap) => (hE.sl ha).idx (c := c) (k := kk) (H1 := H1) hlt
  have x2 := fun c (kk : IntKind) (H1 : Heap) => (hE.sl hb).idx (c := c) (k := kk) (H1 := H1) (by omega : j < b.length)
  have hw1 : IntKind.i64.wrap ((j : Int) + 1) = ((j + 1 : Nat) : Int) := wrap_nat (by omega)
  have hq := samelegs_eqv (a := gt a j) (b := gt b j)
  by_cases he : gt a j = gt b j
  · rw [decide_eq_true he] at hq
    simp only [n29, r29, f0, f1, f5, hlt, l1, l2, x1, x2, hw1, hq, SB, Nat.reduceLT, callee, aOp, ne_eq, Nat.reduceEqDiff, aBin, aUn, if_true, if_false, reduceCtorEq, frame0, place, notTuple, Nat.reduceAdd, Nat.reduceLeDiff, resVal, dite_true, dite_false, Int.reduceEq, Int.reduceLT, Int.reduceLE]
    exact hN (j + 1) _ _ ⟨by omega, (by simp only [f0, FB, Nat.reduceEqDiff]), (by simp only [f1, FB, Nat.reduceEqDiff]), (by simp only [FB, Nat.reduceEqDiff]), hE.app, same_step hl hlt hall he⟩ (by omega)
  · rw [decide_eq_false he] at hq
    simp only [n29, r29, f0, f1, f5, hlt, l1, l2, x1, x2, hw1, hq, SB, Nat.reduceLT, callee, aOp, ne_eq, Nat.reduceEqDiff, aBin, aUn, if_true, if_false, reduceCtorEq, frame0, place, notTuple, Nat.reduceAdd, Nat.reduceLeDiff, resVal, dite_true, dite_false, Int.reduceEq, Int.reduceLT, Int.reduceLE]
    rw [decide_eq_false]
    rintro rfl
    exact he rfl

theorem daily_ok [OB] {mp : Bool} {lim : Nat} {a b c d e f : Int} {H : Heap} {Q : Value → Heap → Prop} : CallR E mp lim 17 [.int .i64 a, .int .i64 b, .int .i64 c, .int .i64 d, .int .i64 e, .int .i64 f] H Q = Q (.agg (encL ⟨a, b, c, d, e, f, 0, 127⟩).toArray) H := by
  refine pc (by decide) e17 rfl rfl ?_
  rw [b17, c17]
  simp only [n17, r17, encL, SB, Nat.reduceLT, callee, aOp, ne_eq, Nat.reduceEqDiff, aBin, aUn, if_true, if_false, reduceCtorEq, frame0, place, notTuple, Nat.reduceAdd, Nat.reduceLeDiff, resVal, dite_true, dite_false, Int.reduceEq, Int.reduceLT, Int.reduceLE]
theorem three_ok [OB] {lim : Nat} {H : Heap} {Q : Value → Heap → Prop} (hlim : lim ≤ H.length) (hQ : ∀ H' a b, Ext H H' → NetIn H' a b P3 L3 → Q (.agg (netV a 3 3 b 3 3).toArray) H') : CallR E false lim 60 [] H Q := by
  refine runs' (by decide) e60 rfl ?_
  rw [b60, c60]
  simp only [n60, r60, daily_ok, encL, setAll_full, hlim, SB, Nat.reduceLT, callee, aOp, ne_eq, Nat.reduceEqDiff, aBin, aUn, if_true, if_false, reduceCtorEq, frame0, place, notTuple, Nat.reduceAdd, Nat.reduceLeDiff, resVal, dite_true, dite_false, Int.reduceEq, Int.reduceLT, Int.reduceLE]
  refine hQ _ (some ⟨H.length + 1, 0, none⟩) (some ⟨H.length + 2, 0, none⟩) Ext.refl.app ⟨Sl.row (ro := false) encI_len (by rw [hget_new]; rfl), Sl.row (ro := false) encL_len (by rw [hget_new]; rfl), by decide, by decide, ?_⟩
  intro l hl
  simp only [L3, List.mem_cons, List.not_mem_nil, or_false] at hl
  rcases hl with rfl | rfl | rfl <;> (unfold By; decide)
theorem aw7 : IsArr L3 1 0 3 780 := by
  have hk : arrK 3 (posN P3) (0 + 86400) L3 1 0 2 = [0, 660, 780] := by rw [arrK, arrK, arrK]; exact (congrArg _ s_a).trans s_b
  have h1 := arrK_all (net3 val3) (p := 1) (by decide) (Int.le_refl 0) (by decide : (0 : Int) ≤ 0 + 86400) (k := 2) (by rw [arrK, hk]; exact s_c) 3 (by decide)
  rw [hk] at h1
  exact h1
theorem er3 {p q t : Int} (hp : p ∈ P3) (hq : q ∈ P3) (h0 : 0 ≤ t) (h1 : t ≤ maxTime) : errA P3 L3 p q t = 0 := by
  unfold errA; rw [if_neg (by rw [val3]; decide), if_pos ⟨hp, hq, h0, h1⟩]
theorem erM {p q t : Int} (hp : p ∈ P3) (hq : q ∈ P3) (h0 : 0 ≤ t) (h1 : t ≤ maxTime) : errA P3 M3 p q t = 0 := by
  unfold errA; rw [if_neg (by rw [valM]; decide), if_pos ⟨hp, hq, h0, h1⟩]
theorem awake33_go [OB] {mp : Bool} {lim : Nat} {H : Heap} {Q : Value → Heap → Prop} (hoff : OB.on 21 = false) : CallR E mp lim 21 [] H Q = Q (.bool true) H := by
  refine CallR_pure (E := E) (by simp [E, orc, hoff]) (show E.tr 21 = some a21 from e21) rfl rfl (Ret_pad ?_)
  rw [b21, c21]
  simp only [n21, r21, SB, Nat.reduceLT, callee, aOp, ne_eq, Nat.reduceEqDiff, aBin, aUn, if_true, if_false, reduceCtorEq, frame0, place, notTuple, Nat.reduceAdd, Nat.reduceLeDiff, resVal, dite_true, dite_false, Int.reduceEq, Int.reduceLT, Int.reduceLE]
  rw [List.append_nil]
  refine three_ok (Nat.le_refl _) fun H0 pa pb hE0 hn0 => ?_
  refine Ret_pad ?_
  have hl0 := hE0.len
  simp only [n21, r21, netV_len, netV_0, netV_1, take_all, setAll_full, hl0, SB, Nat.reduceLT, callee, aOp, ne_eq, Nat.reduceEqDiff, aBin, aUn, if_true, if_false, reduceCtorEq, frame0, place, notTuple, Nat.reduceAdd, Nat.reduceLeDiff, resVal, dite_true, dite_false, Int.reduceEq, Int.reduceLT, Int.reduceLE]
  -- Arrive
  refine Arrive_ok (P := P3) (L := L3) (cp := 3) (cl := 3) (hn0.app _) (by simp; omega) (fun _ h => absurd (er3 (by decide) (by decide) (by decide) (by decide)) h) fun H1 q1 T1 _ hC1 hT1 hO1 hl1 => ?_
  have hN1 := hC1.cells (j := H0.length) hget_new0 (by simp)
  have hN1X := fun X => (Ext.refl.app (X := X)).cells hN1
  have hE1 : Ext H0 H1 := hC1.pre.ext
  have hlen1 := hE1.len
  have S1 := hO1.sl encI_len
  obtain rfl := aw1 hT1
  refine Ret_pad ?_
  simp only [n21, r21, hN1X, netV_len, netV_0, netV_1, take_all, SB, Nat.reduceLT, callee, aOp, ne_eq, Nat.reduceEqDiff, aBin, aUn, if_true, if_false, reduceCtorEq, frame0, place, notTuple, Nat.reduceAdd, Nat.reduceLeDiff, resVal, dite_true, dite_false, Int.reduceEq, Int.reduceLT, Int.reduceLE]
  rw [List.append_nil]
  -- Way
  refine Way_ok (P := P3) (L := L3) (cp := 3) (cl := 3) (hn0.ext hE1) (by omega) (fun _ h => absurd (er3 (by decide) (by decide) (by decide) (by decide)) h) (fun _ _ h => by have := h.uniq aw7; omega) fun H2 v w p2 c2 _ hC2 hv0 hv hw _ hO2 => ?_
  obtain ⟨rfl, rfl⟩ := aw6 hv hw
  have hN2 := hC2.cells hN1 (by simp)
  have hN2X := fun X => (Ext.refl.app (X := X)).cells hN2
  have hE2 : Ext H0 H2 := hE1.trans hC2.ext
  have hlen2 := hC2.len
  have S2 := hO2.sl enc3_len
  replace S1 := hC2.ext.sl S1
  refine Ret_pad ?_
  simp only [n21, r21, hN2X, netV_len, netV_0, netV_1, take_all, SB, Nat.reduceLT, callee, aOp, ne_eq, Nat.reduceEqDiff, aBin, aUn, if_true, if_false, reduceCtorEq, frame0, place, notTuple, Nat.reduceAdd, Nat.reduceLeDiff, resVal, dite_true, dite_false, Int.reduceEq, Int.reduceLT, Int.reduceLE]
  rw [List.append_nil]
  refine Arrive_ok (P := P3) (L := L3) (cp := 3) (cl := 3) (hn0.ext hE2) (by omega) (fun _ h => absurd (er3 (by decide) (by decide) (by decide) (by decide)) h) fun H3 q3 T3 _ hC3 hT3 hO3 hl3 => ?_
  have hN3 := hC3.cells hN2 (by simp)
  have hN3X := fun X => (Ext.refl.app (X := X)).cells hN3
  have hE3 : Ext H0 H3 := hE2.trans hC3.ext
  have hlen3 := hC3.len
  have S3 := hO3.sl encI_len
  replace S1 := hC3.ext.sl S1
  replace S2 := hC3.ext.sl S2
  obtain rfl := aw2 hT3
  refine Ret_pad ?_
  simp only [n21, r21, hN3X, netV_len, netV_0, netV_1, take_all, SB, Nat.reduceLT, callee, aOp, ne_eq, Nat.reduceEqDiff, aBin, aUn, if_true, if_false, reduceCtorEq, frame0, place, notTuple, Nat.reduceAdd, Nat.reduceLeDiff, resVal, dite_true, dite_false, Int.reduceEq, Int.reduceLT, Int.reduceLE]
  rw [List.append_nil]
  refine Leave_ok (P := P3) (L := L3) (cp := 3) (cl := 3) (hn0.ext hE3) (by omega) (fun _ h => absurd (er3 (by decide) (by decide) (by decide) (by decide)) h) fun H4 q4 T4 _ hC4 hT4 hO4 hl4 => ?_
  have hN4 := hC4.cells hN3 (by simp)
  have hN4X := fun X => (Ext.refl.app (X := X)).cells hN4
  have hE4 : Ext H0 H4 := hE3.trans hC4.ext
  have hlen4 := hC4.len
  have S4 := hO4.sl encI_len
  replace S1 := hC4.ext.sl S1
  replace S2 := hC4.ext.sl S2
  replace S3 := hC4.ext.sl S3
  obtain rfl := aw5 hT4
  refine Ret_pad ?_
  simp only [n21, r21, hN4X, netV_len, netV_0, netV_1, take_all, SB, Nat.reduceLT, callee, aOp, ne_eq, Nat.reduceEqDiff, aBin, aUn, if_true, if_false, reduceCtorEq, frame0, place, notTuple, Nat.reduceAdd, Nat.reduceLeDiff, resVal, dite_true, dite_false, Int.reduceEq, Int.reduceLT, Int.reduceLE]
  rw [List.append_nil]
  refine Without_ok (P := P3) (L := L3) (cp := 3) (cl := 3) (hn0.ext hE4) (.inr ⟨by decide, by decide⟩) (by decide) (by omega) val3 ⟨g2, by simp [L3], rfl⟩ fun H5 qp ql cql hC5 hOp hOl => ?_
  have hid : (L3.findIdx fun l => l.id = 2) = 1 := rfl
  rw [hid] at hOl
  replace hOl : OwnZ H4.length H5 encL 8 ql cql M3 := hOl
  have hN5 := hC5.cells hN4 (by simp)
  have hN5X := fun X => (Ext.refl.app (X := X)).cells hN5
  have hE5 : Ext H0 H5 := hE4.trans hC5.ext
  have hlen5 := hC5.len
  replace S1 := hC5.ext.sl S1
  replace S2 := hC5.ext.sl S2
  replace S3 := hC5.ext.sl S3
  replace S4 := hC5.ext.sl S4
  have hnM : NetIn H5 qp ql P3 M3 := ⟨hOp.sl encI_len, hOl.sl encL_len, by decide, by decide, fun l hl => hn0.bys l (by
    simp only [M3, List.mem_cons, List.not_mem_nil, or_false] at hl
    rcases hl with rfl | rfl <;> simp [L3])⟩
  refine Ret_pad ?_
  simp only [n21, r21, netV_len, netV_0, netV_1, take_all, setAll_full, show H.length ≤ H5.length by omega, SB, Nat.reduceLT, callee, aOp, ne_eq, Nat.reduceEqDiff, aBin, aUn, if_true, if_false, reduceCtorEq, frame0, place, notTuple, Nat.reduceAdd, Nat.reduceLeDiff, resVal, dite_true, dite_false, Int.reduceEq, Int.reduceLT, Int.reduceLE]
  refine Arrive_ok (P := P3) (L := M3) (cp := loose 1) (cl := cql) (hnM.app _) (by simp; omega) (fun _ h => absurd (erM (by decide) (by decide) (by decide) (by decide)) h) fun H6 q6 T6 _ hC6 hT6 hO6 hl6 => ?_
  have hC6' := hC6.pre
  have hN6 := hC6'.cells hN5 (by simp)
  have hN6X := fun X => (Ext.refl.app (X := X)).cells hN6
  have hE6 : Ext H0 H6 := hE5.trans hC6'.ext
  have hlen6 := hC6'.len
  have S6 := hO6.sl encI_len
  replace S1 := hC6'.ext.sl S1
  replace S2 := hC6'.ext.sl S2
  replace S3 := hC6'.ext.sl S3
  replace S4 := hC6'.ext.sl S4
  obtain rfl := aw3 hT6
  refine Ret_pad ?_
  simp only [n21, r21, hN6X, netV_len, netV_0, netV_1, take_all, SB, Nat.reduceLT, callee, aOp, ne_eq, Nat.reduceEqDiff, aBin, aUn, if_true, if_false, reduceCtorEq, frame0, place, notTuple, Nat.reduceAdd, Nat.reduceLeDiff, resVal, dite_true, dite_false, Int.reduceEq, Int.reduceLT, Int.reduceLE]
  rw [List.append_nil]
  refine Way_ok (P := P3) (L := L3) (cp := 3) (cl := 3) (hn0.ext hE6) (by omega) (fun _ h => absurd (er3 (by decide) (by decide) (by decide) (by decide)) h) (fun H7 _ _ hC7 => ?_) fun H7 v w p7 c7 _ hC7 hv0 hv hw _ hO7 => ?_
  · replace S1 := hC7.ext.sl S1
    replace S2 := hC7.ext.sl S2
    replace S3 := hC7.ext.sl S3
    replace S4 := hC7.ext.sl S4
    replace S6 := hC7.ext.sl S6
    have f1 : ∀ (X : Heap) (mp : Bool) (lim : Nat) (Q : Value → Heap → Prop), CallR E mp lim 28 [.slice q1 P3.length (loose 1), .slice (some ⟨H7.length, 0, none⟩) 3 3] (H7 ++ .cells false [.int .i64 0, .int .i64 660, .int .i64 780] :: X) Q = Q (.bool true) (H7 ++ .cells false [.int .i64 0, .int .i64 660, .int .i64 780] :: X) := fun X mp lim Q =>
      sameints_ok (a := [0, 660, 780]) (b := [0, 660, 780]) (S1.app _) (Sl.row (ro := false) encI_len (by rw [hget_new0]; rfl)) (by decide)
    have f2 : ∀ (a : Blk) (X : Heap) (mp : Bool) (lim : Nat) (Q : Value → Heap → Prop), CallR E mp lim 31 [.slice p2 2 c2, .slice (some ⟨H7.length + 1, 0, none⟩) 2 2] (H7 ++ a :: .cells false [.int .i64 1, .int .i64 600, .int .i64 660, .int .i64 2, .int .i64 720, .int .i64 780] :: X) Q = Q (.bool true) (H7 ++ a :: .cells false [.int .i64 1, .int .i64 600, .int .i64 660, .int .i64 2, .int .i64 720, .int .i64 780] :: X) := fun a X mp lim Q =>
      samestops_ok (a := [(g1, (600 : Int)), (g2, 720)].map stopOf) (b := [(1, 600, 660), (2, 720, 780)]) (S2.app _) (Sl.row (ro := false) enc3_len (by rw [hget_new]; rfl)) (by decide)
    have f3 : ∀ (a b : Blk) (X : Heap) (mp : Bool) (lim : Nat) (Q : Value → Heap → Prop), CallR E mp lim 28 [.slice q3 P3.length (loose 1), .slice (some ⟨H7.length + 2, 0, none⟩) 3 3] (H7 ++ a :: b :: .cells false [.int .i64 601, .int .i64 2100, .int .i64 2220] :: X) Q = Q (.bool true) (H7 ++ a :: b :: .cells false [.int .i64 601, .int .i64 2100, .int .i64 2220] :: X) := fun a b X mp lim Q =>
      sameints_ok (a := [601, 2100, 2220]) (b := [601, 2100, 2220]) (S3.app _) (Sl.row (ro := false) encI_len (by rw [hget_new]; rfl)) (by decide)
    have f4 : ∀ (a b c : Blk) (X : Heap) (mp : Bool) (lim : Nat) (Q : Value → Heap → Prop), CallR E mp lim 28 [.slice q4 P3.length (loose 1), .slice (some ⟨H7.length + 3, 0, none⟩) 3 3] (H7 ++ a :: b :: c :: .cells false [.int .i64 600, .int .i64 660, .int .i64 780] :: X) Q = Q (.bool true) (H7 ++ a :: b :: c :: .cells false [.int .i64 600, .int .i64 660, .int .i64 780] :: X) := fun a b c X mp lim Q =>
      sameints_ok (a := [600, 660, 780]) (b := [600, 660, 780]) (S4.app _) (Sl.row (ro := false) encI_len (by rw [hget_new]; rfl)) (by decide)
    have f5 : ∀ (a b c d : Blk) (X : Heap) (mp : Bool) (lim : Nat) (Q : Value → Heap → Prop), CallR E mp lim 28 [.slice q6 P3.length (loose 1), .slice (some ⟨H7.length + 4, 0, none⟩) 3 3] (H7 ++ a :: b :: c :: d :: .cells false [.int .i64 0, .int .i64 660, .int .i64 840] :: X) Q = Q (.bool true) (H7 ++ a :: b :: c :: d :: .cells false [.int .i64 0, .int .i64 660, .int .i64 840] :: X) := fun a b c d X mp lim Q =>
      sameints_ok (a := [0, 660, 840]) (b := [0, 660, 840]) (S6.app _) (Sl.row (ro := false) encI_len (by rw [hget_new]; rfl)) (by decide)
    refine Ret_pad ?_
    simp only [n21, r21, f1, f2, f3, f4, f5, SB, Nat.reduceLT, callee, aOp, ne_eq, Nat.reduceEqDiff, aBin, aUn, if_true, if_false, reduceCtorEq, frame0, place, notTuple, Nat.reduceAdd, Nat.reduceLeDiff, resVal, dite_true, dite_false, Int.reduceEq, Int.reduceLT, Int.reduceLE]
  · have := aw4 hv; omega
end Go.Proofs.Ytcmhnincbkbncaa.Fn
namespace Go.Proofs.Ytcmhnincbkbncaa.Fn
open Go.AM Go.AM.Sym Go.Net
set_option maxRecDepth 100000
set_option linter.unusedVariables false
set_option linter.unusedSimpArgs false
set_option maxHeartbeats 4000000

/-- What a slice of numbers of one's own is read as. -/
theorem ld_ints {H : Heap} {q : Option Addr} {T : List Int} {i : Nat} (h : Sl H encI 1 q T) (hi : i < T.length) : ∀ X, AM.loadCell (H ++ X) (elt q 1 i) = some (.int .i64 (gt T i)) := fun X => by
  rw [(h.app X).loadCell0 encI_len hi (by decide)]; rfl
theorem ix_ints {H : Heap} {q : Option Addr} {T : List Int} {i n : Nat} (h : Sl H encI 1 q T) (hi : i < n) (hT : T.length = n) : ∀ (c : Nat) (k : IntKind) (H1 : Heap), idxK 1 (.slice q n c) (.int k (i : Int)) H1 = some (.pointer (some (elt q 1 i)), H1) := fun c k H1 => by
  subst hT; exact h.idx hi
theorem gt_getD {T : List Int} {i : Nat} (h : i < T.length) : gt T i = T.getD i (-1) := by
  rw [gt_lt h, List.getD_eq_getElem?_getD, List.getElem?_eq_getElem h]; rfl
theorem fits_err {P : List Int} {L : List Leg} {a b t : Int} (h : fitsP P L a b t) : errA P L a b t = 0 := by
  unfold errA
  rw [if_neg (by simpa using h.2.1), if_pos h.2.2]

def rest4 : ACode := tlC (tlC (tlC c4))
theorem c4_cut : c4 = .seq (hdC c4) (.seq (hdC (tlC c4)) (.seq (hdC (tlC (tlC c4))) rest4)) := rfl

theorem later_main [OB] {pp pl : Option Addr} {P : List Int} {L : List Leg} {cp cl : Nat} {frm a b : Int} {H G : Heap} {fr : Nat → Value} (hn : NetIn H pp pl P L) (hE : Chg [] H G) (hB : hget G H.length = .cells false (netV pp P.length cp pl L.length cl)) (hab : a ≤ b)
    (f1 : fr 1 = .int .i64 frm) (f2 : fr 2 = .int .i64 a) (f3 : fr 3 = .int .i64 b) (f4 : fr 4 = .pointer (some ⟨H.length, 0, none⟩)) : Ret E a4 H.length [.code rest4] fr (G ++ []) fun v' _ => v' = .bool true := by
  have hBX := fun X => (Ext.refl.app (X := X)).cells hB
  have hnG := hn.ext hE.ext
  have hl := hE.len
  have hft := fun X (t : Int) (mp : Bool) (lim : Nat) (Q : Value → Heap → Prop) => fits_ok (mp := mp) (lim := lim) (cp := cp) (cl := cl) (Q := Q) (a := frm) (b := frm) (t := t) (hnG.app X)
  by_cases hfa : fitsP P L frm frm a
  · by_cases hfb : fitsP P L frm frm b
    · have hea := fits_err hfa
      have heb := fits_err hfb
      obtain ⟨_, hv, hp, _, ha0, ha1⟩ := hfa
      obtain ⟨_, _, _, _, hb0, hb1⟩ := hfb
      have hno := valid_net hv
      obtain ⟨v1, v2, v3, v4⟩ := validN_0 hv
      have hfa : fitsP P L frm frm a := ⟨‹_›, hv, hp, hp, ha0, ha1⟩
      have hfb : fitsP P L frm frm b := ⟨‹_›, hv, hp, hp, hb0, hb1⟩
      simp only [rest4, c4, hdC, tlC]
      simp only [n4, r4, f1, f2, f3, f4, hBX, netV_len, netV_0, netV_1, hft, take_all, decide_eq_true hfa, decide_eq_true hfb, SB, Nat.reduceLT, callee, aOp, ne_eq, Nat.reduceEqDiff, aBin, aUn, if_true, if_false, reduceCtorEq, frame0, place, notTuple, Nat.reduceAdd, Nat.reduceLeDiff, resVal, dite_true, dite_false, Int.reduceEq, Int.reduceLT, Int.reduceLE]
      rw [List.append_nil]
      refine Arrive_ok hnG hl (fun H1 h => absurd hea h) fun H1 q1 T1 _ hC1 hT1 hO1 hl1 => ?_
      have hE1 := hE.trans hC1
      have hB1 := hC1.cells hB (by simp)
      have hB1X := fun X => (Ext.refl.app (X := X)).cells hB1
      refine Ret_pad ?_
      simp only [n4, r4, f1, f2, f3, f4, hB1X, netV_len, netV_0, netV_1, take_all, SB, Nat.reduceLT, callee, aOp, ne_eq, Nat.reduceEqDiff, aBin, aUn, if_true, if_false, reduceCtorEq, frame0, place, notTuple, Nat.reduceAdd, Nat.reduceLeDiff, resVal, dite_true, dite_false, Int.reduceEq, Int.reduceLT, Int.reduceLE]
      rw [List.append_nil]
      refine Arrive_ok (hn.ext hE1.ext) hE1.len (fun H1 h => absurd heb h) fun H2 q2 T2 _ hC2 hT2 hO2 hl2 => ?_
      have hE2 := hE1.trans hC2
      have hB2 := hC2.cells hB1 (by simp)
      have hB2X := fun X => (Ext.refl.app (X := X)).cells hB2
      refine Ret_pad ?_
      simp only [n4, r4, f1, f2, f3, f4, hB2X, netV_len, netV_0, netV_1, take_all, SB, Nat.reduceLT, callee, aOp, ne_eq, Nat.reduceEqDiff, aBin, aUn, if_true, if_false, reduceCtorEq, frame0, place, notTuple, Nat.reduceAdd, Nat.reduceLeDiff, resVal, dite_true, dite_false, Int.reduceEq, Int.reduceLT, Int.reduceLE]
      rw [List.append_nil]
      refine Leave_ok (hn.ext hE2.ext) hE2.len (fun H1 h => absurd hea h) fun H3 q3 T3 _ hC3 hT3 hO3 hl3 => ?_
      have hE3 := hE2.trans hC3
      have hB3 := hC3.cells hB2 (by simp)
      have hB3X := fun X => (Ext.refl.app (X := X)).cells hB3
      refine Ret_pad ?_
      simp only [n4, r4, f1, f2, f3, f4, hB3X, netV_len, netV_0, netV_1, take_all, SB, Nat.reduceLT, callee, aOp, ne_eq, Nat.reduceEqDiff, aBin, aUn, if_true, if_false, reduceCtorEq, frame0, place, notTuple, Nat.reduceAdd, Nat.reduceLeDiff, resVal, dite_true, dite_false, Int.reduceEq, Int.reduceLT, Int.reduceLE]
      rw [List.append_nil]
      refine Leave_ok (hn.ext hE3.ext) hE3.len (fun H1 h => absurd heb h) fun H4 q4 T4 _ hC4 hT4 hO4 hl4 => ?_
      have hE4 := hE3.trans hC4
      have hB4 := hC4.cells hB3 (by simp)
      have hS1 := hC4.ext.sl (hC3.ext.sl (hC2.ext.sl (hO1.sl encI_len)))
      have hS2 := hC4.ext.sl (hC3.ext.sl (hO2.sl encI_len))
      have hS3 := hC4.ext.sl (hO3.sl encI_len)
      have hS4 := hO4.sl encI_len
      refine Ret_pad ?_
      simp only [n4, r4, f1, f2, f3, f4, SB, Nat.reduceLT, callee, aOp, ne_eq, Nat.reduceEqDiff, aBin, aUn, if_true, if_false, reduceCtorEq, frame0, place, notTuple, Nat.reduceAdd, Nat.reduceLeDiff, resVal, dite_true, dite_false, Int.reduceEq, Int.reduceLT, Int.reduceLE]
      refine Ret_rounds (fun i => P.length - i) (fun i fr G => i ≤ P.length ∧ fr 2 = .int .i64 a ∧ fr 3 = .int .i64 b ∧ fr 4 = .pointer (some ⟨H.length, 0, none⟩) ∧ fr 9 = .slice q1 P.length (loose 1) ∧ fr 11 = .slice q2 P.length (loose 1) ∧ fr 13 = .slice q3 P.length (loose 1) ∧ fr 15 = .slice q4 P.length (loose 1) ∧ fr 17 = .int .i64 (i : Int) ∧ Ext H4 G) 0
        ⟨Nat.zero_le _, (by simp only [f2, FB, Nat.reduceEqDiff]), (by simp only [f3, FB, Nat.reduceEqDiff]), (by simp only [f4, FB, Nat.reduceEqDiff]), (by simp only [FB, Nat.reduceEqDiff]), (by simp only [FB, Nat.reduceEqDiff]), (by simp only [FB, Nat.reduceEqDiff]), (by simp only [FB, Nat.reduceEqDiff]), by rfl, Ext.refl.app⟩ ?_
      intro i fr2 G4 ⟨hi, g2, g3, g4, g9, g11, g13, g15, g17, hX⟩ hN
      have hB5X := fun X => (Ext.refl.app (X := X)).cells (hX.cells hB4)
      rw [Ret_code l4_1.eq_1]
      refine Ret_pad ?_
      by_cases hlt : i < P.length
      · have l1 := ld_ints (i := i) (hX.sl hS1) (by omega)
        have l2 := ld_ints (i := i) (hX.sl hS2) (by omega)
        have l3 := ld_ints (i := i) (hX.sl hS3) (by omega)
        have l4 := ld_ints (i := i) (hX.sl hS4) (by omega)
        have x1 := ix_ints (i := i) (hX.sl hS1) hlt hl1
        have x2 := ix_ints (i := i) (hX.sl hS2) hlt hl2
        have x3 := ix_ints (i := i) (hX.sl hS3) hlt hl3
        have x4 := ix_ints (i := i) (hX.sl hS4) hlt hl4
        have hw1 : IntKind.i64.wrap ((i : Int) + 1) = ((i + 1 : Nat) : Int) := wrap_nat (by omega)
        have hq := gt_mem hlt
        have hix : posN P (gt P i) = i := v3.idx hlt
        have m1 := hT1.2 _ hq
        have m2 := hT2.2 _ hq
        have m3 := hT3.2 _ hq
        have m4 := hT4.2 _ hq
        rw [hix, ← gt_getD (by omega)] at m1 m2 m3 m4
        have c1 : ¬ (0 ≤ gt T1 i ∧ 0 ≤ gt T2 i ∧ gt T2 i < gt T1 i) := fun ⟨_, h2, h3⟩ => by have := m1.later m2 hab h2; omega
        have c2 : ¬ (0 ≤ gt T3 i ∧ 0 ≤ gt T4 i ∧ gt T4 i < gt T3 i) := fun ⟨h1, h2, h3⟩ => by have := m3.later m4 hno.fine hab h1 h2; omega
        have c3 : ¬ (0 ≤ gt T1 i ∧ gt T1 i < a) := fun ⟨h1, h2⟩ => by have := m1.ge hno.fine h1; omega
        have c4 : ¬ b < gt T4 i := fun h => by
          have := m4.range hno.fine (by omega)
          omega
        generalize gt T1 i = x at *
        generalize gt T2 i = y at *
        generalize gt T3 i = u at *
        generalize gt T4 i = v at *
        simp only [n4, r4, g2, g3, g4, g9, g11, g13, g15, g17, hB5X, netV_len, netV_0, netV_1, hlt, l1, l2, l3, l4, x1, x2, x3, x4, hw1, SB, Nat.reduceLT, callee, aOp, ne_eq, Nat.reduceEqDiff, aBin, aUn, if_true, if_false, reduceCtorEq, frame0, place, notTuple, Nat.reduceAdd, Nat.reduceLeDiff, resVal, dite_true, dite_false, Int.reduceEq, Int.reduceLT, Int.reduceLE]
        repeat' ((first | refine wantK_dec (fun hw => ?_) (fun hw => ?_) | refine condK_dec (fun hw => ?_) (fun hw => ?_) | refine wantK_any (fun hw => ?_) (fun hw => ?_) | refine condK_any (fun hw => ?_) (fun hw => ?_)) <;> (try simp only [hw, n4, r4, g2, g3, g4, g9, g11, g13, g15, g17, hB5X, netV_len, netV_0, netV_1, hlt, l1, l2, l3, l4, x1, x2, x3, x4, hw1, SB, Nat.reduceLT, callee, aOp, ne_eq, Nat.reduceEqDiff, aBin, aUn, if_true, if_false, reduceCtorEq, frame0, place, notTuple, Nat.reduceAdd, Nat.reduceLeDiff, resVal, dite_true, dite_false, Int.reduceEq, Int.reduceLT, Int.reduceLE]))
        all_goals first
          | (exfalso; omega)
          | exact hN (i + 1) _ _ ⟨by omega, (by simp only [g2, FB, Nat.reduceEqDiff]), (by simp only [g3, FB, Nat.reduceEqDiff]), (by simp only [g4, FB, Nat.reduceEqDiff]), (by simp only [g9, FB, Nat.reduceEqDiff]), (by simp only [g11, FB, Nat.reduceEqDiff]), (by simp only [g13, FB, Nat.reduceEqDiff]), (by simp only [g15, FB, Nat.reduceEqDiff]), (by simp only [FB, Nat.reduceEqDiff]), hX.app⟩ (by omega)
      · obtain rfl : i = P.length := by omega
        simp only [n4, r4, g2, g3, g4, g9, g11, g13, g15, g17, hB5X, netV_len, netV_0, netV_1, hlt, SB, Nat.reduceLT, callee, aOp, ne_eq, Nat.reduceEqDiff, aBin, aUn, if_true, if_false, reduceCtorEq, frame0, place, notTuple, Nat.reduceAdd, Nat.reduceLeDiff, resVal, dite_true, dite_false, Int.reduceEq, Int.reduceLT, Int.reduceLE]
    · simp only [rest4, c4, hdC, tlC]
      simp only [n4, r4, f1, f2, f3, f4, hBX, netV_len, netV_0, netV_1, hft, take_all, decide_eq_true hfa, decide_eq_false hfb, SB, Nat.reduceLT, callee, aOp, ne_eq, Nat.reduceEqDiff, aBin, aUn, if_true, if_false, reduceCtorEq, frame0, place, notTuple, Nat.reduceAdd, Nat.reduceLeDiff, resVal, dite_true, dite_false, Int.reduceEq, Int.reduceLT, Int.reduceLE]
  · simp only [rest4, c4, hdC, tlC]
    simp only [n4, r4, f1, f2, f3, f4, hBX, netV_len, netV_0, netV_1, hft, take_all, decide_eq_false hfa, SB, Nat.reduceLT, callee, aOp, ne_eq, Nat.reduceEqDiff, aBin, aUn, if_true, if_false, reduceCtorEq, frame0, place, notTuple, Nat.reduceAdd, Nat.reduceLeDiff, resVal, dite_true, dite_false, Int.reduceEq, Int.reduceLT, Int.reduceLE]

theorem RouteLater_ok [OB] {mp : Bool} {lim : Nat} {pp pl : Option Addr} {P : List Int} {L : List Leg} {cp cl : Nat} {frm a b : Int} {H : Heap} {Q : Value → Heap → Prop} (hn : NetIn H pp pl P L) (hA : OB.on 21 = true) :
    CallR E mp lim 4 [.agg (netV pp P.length cp pl L.length cl).toArray, .int .i64 frm, .int .i64 a, .int .i64 b] H Q = Q (.bool true) H := by
  refine pc (by decide) e4 rfl rfl ?_
  rw [b4, c4_cut]
  simp only [c4, hdC, tlC]
  by_cases hab : b < a
  · simp only [n4, r4, awake33_on hA, hab, SB, Nat.reduceLT, callee, aOp, ne_eq, Nat.reduceEqDiff, aBin, aUn, if_true, if_false, reduceCtorEq, frame0, place, notTuple, Nat.reduceAdd, Nat.reduceLeDiff, resVal, dite_true, dite_false, Int.reduceEq, Int.reduceLT, Int.reduceLE]
    refine Ret_pad ?_
    exact later_main (frm := frm) (a := b) (b := a) hn (Chg.refl.app) hget_new0 (by omega) (by simp only [FB, Nat.reduceEqDiff]) (by simp only [FB, Nat.reduceEqDiff]) (by simp only [FB, Nat.reduceEqDiff]) (by simp only [FB, Nat.reduceEqDiff])
  · simp only [n4, r4, awake33_on hA, hab, SB, Nat.reduceLT, callee, aOp, ne_eq, Nat.reduceEqDiff, aBin, aUn, if_true, if_false, reduceCtorEq, frame0, place, notTuple, Nat.reduceAdd, Nat.reduceLeDiff, resVal, dite_true, dite_false, Int.reduceEq, Int.reduceLT, Int.reduceLE]
    refine Ret_pad ?_
    exact later_main (frm := frm) (a := a) (b := b) hn (Chg.refl.app) hget_new0 (by omega) (by simp only [FB, Nat.reduceEqDiff]) (by simp only [FB, Nat.reduceEqDiff]) (by simp only [FB, Nat.reduceEqDiff]) (by simp only [FB, Nat.reduceEqDiff])
end Go.Proofs.Ytcmhnincbkbncaa.Fn
namespace Go.Proofs.Ytcmhnincbkbncaa.Fn
open Go.AM Go.AM.Sym Go.Net
set_option maxRecDepth 100000
set_option linter.unusedVariables false
set_option linter.unusedSimpArgs false
set_option maxHeartbeats 4000000

theorem btt : (true == true) = true := id rfl
theorem btf : (true == false) = false := id rfl
theorem bft : (false == true) = false := id rfl
theorem bff : (false == false) = true := id rfl
def pickN (a n : Int) : Int := if n < 1 then 0 else if Int.tmod a n < 0 then Int.tmod a n + n else Int.tmod a n
theorem pickN_range {a n : Int} (h : 1 ≤ n) : 0 ≤ pickN a n ∧ pickN a n < n := by
  unfold pickN
  rw [if_neg (by omega)]
  have h1 := Int.lt_tmod_of_pos a (show 0 < n by omega)
  have h2 := Int.tmod_lt_of_pos a (show 0 < n by omega)
  split <;> omega
theorem pick_ok [OB] {mp : Bool} {lim : Nat} {a n : Int} {H : Heap} {Q : Value → Heap → Prop} (hn : n < 2 ^ 62) : CallR E mp lim 26 [.int .i64 a, .int .i64 n] H Q = Q (.int .i64 (pickN a n)) H := by
  refine pc (by decide) e26 rfl rfl ?_
  rw [b26, c26]
  by_cases h1 : n < 1
  · simp only [n26, r26, h1, SB, Nat.reduceLT, callee, aOp, ne_eq, Nat.reduceEqDiff, aBin, aUn, if_true, if_false, reduceCtorEq, frame0, place, notTuple, Nat.reduceAdd, Nat.reduceLeDiff, resVal, dite_true, dite_false, Int.reduceEq, Int.reduceLT, Int.reduceLE]
    rw [pickN, if_pos h1]
  · have h0 : ¬ n = 0 := by omega
    by_cases h2 : Int.tmod a n < 0
    · have hr := pickN_range (a := a) (show 1 ≤ n by omega)
      rw [pickN, if_neg h1, if_pos h2] at hr
      have w : IntKind.i64.wrap (Int.tmod a n + n) = Int.tmod a n + n := wrap_id (by omega) (by omega)
      simp only [n26, r26, h1, h0, h2, w, SB, Nat.reduceLT, callee, aOp, ne_eq, Nat.reduceEqDiff, aBin, aUn, if_true, if_false, reduceCtorEq, frame0, place, notTuple, Nat.reduceAdd, Nat.reduceLeDiff, resVal, dite_true, dite_false, Int.reduceEq, Int.reduceLT, Int.reduceLE]
      rw [pickN, if_neg h1, if_pos h2]
    · simp only [n26, r26, h1, h0, h2, SB, Nat.reduceLT, callee, aOp, ne_eq, Nat.reduceEqDiff, aBin, aUn, if_true, if_false, reduceCtorEq, frame0, place, notTuple, Nat.reduceAdd, Nat.reduceLeDiff, resVal, dite_true, dite_false, Int.reduceEq, Int.reduceLT, Int.reduceLE]
      rw [pickN, if_neg h1, if_neg h2]

theorem RouteLeave_ok [OB] {mp : Bool} {lim : Nat} {pp pl : Option Addr} {P : List Int} {L : List Leg} {cp cl : Nat} {to dl back : Int} {H : Heap} {Q : Value → Heap → Prop} (hn : NetIn H pp pl P L) (hA : OB.on 21 = true) :
    CallR E mp lim 5 [.agg (netV pp P.length cp pl L.length cl).toArray, .int .i64 to, .int .i64 dl, .int .i64 back] H Q = Q (.bool true) H := by
  refine pc (by decide) e5 rfl rfl ?_
  rw [b5, c5]
  have hft := fun X (mp : Bool) (lim : Nat) (Q : Value → Heap → Prop) => fits_ok (mp := mp) (lim := lim) (cp := cp) (cl := cl) (Q := Q) (a := to) (b := to) (t := dl) (hn.app X)
  by_cases hf : fitsP P L to to dl
  case neg => simp only [n5, r5, netV_len, netV_0, netV_1, awake33_on hA, hft, take_all, decide_eq_false hf, SB, Nat.reduceLT, callee, aOp, ne_eq, Nat.reduceEqDiff, aBin, aUn, if_true, if_false, reduceCtorEq, frame0, place, notTuple, Nat.reduceAdd, Nat.reduceLeDiff, resVal, dite_true, dite_false, Int.reduceEq, Int.reduceLT, Int.reduceLE]
  have he := fits_err hf
  obtain ⟨_, hv, hp, _, hd0, hd1⟩ := id hf
  have hno := valid_net hv
  obtain ⟨v1, v2, v3, v4⟩ := validN_0 hv
  have hd2 := hd1
  unfold maxTime at hd2
  have hpl : placeN P to = (posN P to : Int) := if_pos hp
  have hpos : posN P to < P.length := List.idxOf_lt_length_of_mem hp
  simp only [n5, r5, netV_len, netV_0, netV_1, awake33_on hA, hft, take_all, decide_eq_true hf, SB, Nat.reduceLT, callee, aOp, ne_eq, Nat.reduceEqDiff, aBin, aUn, if_true, if_false, reduceCtorEq, frame0, place, notTuple, Nat.reduceAdd, Nat.reduceLeDiff, resVal, dite_true, dite_false, Int.reduceEq, Int.reduceLT, Int.reduceLE]
  refine Leave_ok (hn.app _) (by simp) (fun H1 h => absurd he h) fun H1 q1 T _ hC1 hT hO1 hl1 => ?_
  have hE1 : Chg [] H H1 := hC1.pre
  have hB1 : hget H1 H.length = .cells false (netV pp P.length cp pl L.length cl) := hC1.cells hget_new0 (by simp)
  have hB1X := fun X => (Ext.refl.app (X := X)).cells hB1
  have hn1 := hn.ext hE1.ext
  have hS1 := hO1.sl encI_len
  have hplc := fun X (mp : Bool) (lim : Nat) (Q : Value → Heap → Prop) => place_ok (mp := mp) (lim := lim) (cp := cp) (cl := cl) (Q := Q) (p := to) (hn1.app X)
  rw [hpl] at hplc
  have ld0 := ld_ints (i := posN P to) hS1 (by omega)
  have ix0 := ix_ints (i := posN P to) hS1 hpos hl1
  have hst := hT.2 _ hp
  rw [← gt_getD (by omega)] at hst
  have hst := hst.start hno.fine hd0
  rw [hst] at ld0
  have w1 : IntKind.i64.wrap (dl - 86400) = dl - 86400 := wrap_id (by omega) (by omega)
  generalize hlow : max 0 (dl - 86400) = low
  have w2 : IntKind.i64.wrap (dl - low) = dl - low := wrap_id (by omega) (by omega)
  have w3 : IntKind.i64.wrap (dl - low + 1) = dl - low + 1 := wrap_id (by omega) (by omega)
  have hpk := fun (H : Heap) (mp : Bool) (lim : Nat) (Q : Value → Heap → Prop) => pick_ok (mp := mp) (lim := lim) (a := back) (n := dl - low + 1) (H := H) (Q := Q) (by omega)
  have hpr := pickN_range (a := back) (n := dl - low + 1) (by omega)
  generalize pickN back (dl - low + 1) = pk at hpk hpr
  have w4 : IntKind.i64.wrap (low + pk) = low + pk := wrap_id (by omega) (by omega)
  have hmx : aMinMaxAll true (.int .i64 0) [.int .i64 (dl - 86400)] = some (.int .i64 low) := by rw [max_v, hlow]
  refine Ret_pad ?_
  simp only [n5, r5, hB1X, netV_len, netV_0, netV_1, hplc, take_all, ld0, ix0, w1, hmx, w2, w3, hpk, w4, SB, Nat.reduceLT, callee, aOp, ne_eq, Nat.reduceEqDiff, aBin, aUn, if_true, if_false, reduceCtorEq, frame0, place, notTuple, Nat.reduceAdd, Nat.reduceLeDiff, resVal, dite_true, dite_false, Int.reduceEq, Int.reduceLT, Int.reduceLE]
  generalize hsm : low + pk = sm
  refine Ret_rounds (fun i => P.length - i) (fun i fr G => i ≤ P.length ∧ fr 1 = .int .i64 to ∧ fr 2 = .int .i64 dl ∧ fr 4 = .pointer (some ⟨H.length, 0, none⟩) ∧ fr 9 = .slice q1 P.length (loose 1) ∧ fr 11 = .int .i64 low ∧ fr 12 = .int .i64 sm ∧ fr 13 = .int .i64 (i : Int) ∧ Chg [] H1 G) 0
    ⟨Nat.zero_le _, (by simp only [FB, Nat.reduceEqDiff]), (by simp only [FB, Nat.reduceEqDiff]), (by simp only [FB, Nat.reduceEqDiff]), (by simp only [FB, Nat.reduceEqDiff]), (by simp only [FB, Nat.reduceEqDiff]), (by simp only [FB, Nat.reduceEqDiff]), by rfl, Chg.refl.app⟩ ?_
  intro i fr G ⟨hi, g1, g2, g4, g9, g11, g12, g13, hX⟩ hN
  have hBG := hX.cells hB1 (by simp)
  have hB5X := fun X => (Ext.refl.app (X := X)).cells hBG
  have hEG := hE1.trans hX
  have hnG := hn.ext hEG.ext
  have hlG := hEG.len
  rw [Ret_code l5_1.eq_1]
  refine Ret_pad ?_
  by_cases hlt : i < P.length
  case neg =>
    obtain rfl : i = P.length := by omega
    simp only [n5, r5, g1, g2, g4, g9, g11, g12, g13, hB5X, netV_len, netV_0, netV_1, hlt, SB, Nat.reduceLT, callee, aOp, ne_eq, Nat.reduceEqDiff, aBin, aUn, if_true, if_false, reduceCtorEq, frame0, place, notTuple, Nat.reduceAdd, Nat.reduceLeDiff, resVal, dite_true, dite_false, Int.reduceEq, Int.reduceLT, Int.reduceLE]
  have hpi := gt_mem hlt
  have hix : posN P (gt P i) = i := v3.idx hlt
  have m := hT.2 _ hpi
  rw [hix, ← gt_getD (by omega)] at m
  have mr := m.range hno.fine
  have m1 : gt T i = -1 ∨ 0 ≤ gt T i := by
    rcases m with ⟨m, _⟩ | ⟨⟨m, _⟩, _⟩
    · exact .inl m
    · exact .inr m
  have l1 := fun X Y => ld_ints (i := i) ((hX.ext.sl hS1).app X) (by omega) Y
  have x1 := ix_ints (i := i) (hX.ext.sl hS1) hlt hl1
  have lp := fun X => ((hnG.sp).app X).loadCell0 encI_len hlt (by decide)
  simp only [encI, List.getElem?_cons_zero] at lp
  have xp := fun c (k : IntKind) (H1 : Heap) => (hnG.sp).idx (c := c) (k := k) (H1 := H1) hlt
  have hw1 : IntKind.i64.wrap ((i : Int) + 1) = ((i + 1 : Nat) : Int) := wrap_nat (by omega)
  generalize gt P i = p at *
  generalize hgv : gt T i = v at *
  have hld : ∀ X, AM.loadCell (G ++ X) (elt q1 1 i) = some (.int .i64 v) := fun X => by have := l1 X []; rwa [List.append_nil] at this
  have cA : ¬ v < -1 := by omega
  have cB : ¬ (0 ≤ v ∧ v < low) := by omega
  have cC : ¬ (0 ≤ v ∧ dl < v) := by omega
  have herr : ∀ t, 0 ≤ t → t ≤ maxTime → errA P L p p t = 0 := fun t h1 h2 => fits_err ⟨hf.1, hv, hpi, hpi, h1, h2⟩
  have he1 := herr sm (by omega) (by unfold maxTime; omega)
  have hfin : ∀ (H2 : Heap) (q2 : Option Addr) (T2 : List Int) (t : Int), 0 ≤ t → t ≤ maxTime → dl - 86400 ≤ t → arrL P L p t T2 → T2.length = P.length → ((0 ≤ gt T2 (posN P to) ∧ gt T2 (posN P to) ≤ dl) ↔ t ≤ v) := by
    intro H2 q2 T2 t t1 t2 t3 hT2 hl2
    have := hT2.2 to hp
    rw [← gt_getD (by omega)] at this
    exact m.iff this hno.fine t1 t3
  by_cases hv0 : 0 ≤ v
  case neg =>
    simp only [n5, r5, g1, g2, g4, g9, g11, g12, g13, hlt, hw1, netV_len, netV_0, netV_1, take_all, aEq, btt, btf, bft, bff, xp, x1, Bool.not_true, Bool.not_false, hB5X, hld, lp, eq_false cA, eq_false hv0, SB, Nat.reduceLT, callee, aOp, ne_eq, Nat.reduceEqDiff, aBin, aUn, if_true, if_false, reduceCtorEq, frame0, place, notTuple, Nat.reduceAdd, Nat.reduceLeDiff, resVal, dite_true, dite_false, Int.reduceEq, Int.reduceLT, Int.reduceLE]
    rw [List.append_nil]
    refine Arrive_ok hnG hlG (fun H1 h => absurd he1 h) fun H2 q2 T2 _ hC2 hT2 hO2 hl2 => ?_
    have hB2X := fun X => (Ext.refl.app (X := X)).cells (hC2.cells hBG (by simp))
    have hplc := fun X (mp : Bool) (lim : Nat) (Q : Value → Heap → Prop) => place_ok (mp := mp) (lim := lim) (cp := cp) (cl := cl) (Q := Q) (p := to) ((hn.ext (hEG.trans hC2).ext).app X)
    rw [hpl] at hplc
    have hS2 := hO2.sl encI_len
    have l2 := ld_ints (i := posN P to) hS2 (by omega)
    have x2 := ix_ints (i := posN P to) hS2 hpos hl2
    have hv2 := ld_ints (i := i) (hC2.ext.sl (hX.ext.sl hS1)) (by omega)
    rw [hgv] at hv2
    have hi := hfin H2 q2 T2 sm (by omega) (by unfold maxTime; omega) (by omega) hT2 hl2
    generalize gt T2 (posN P to) = w at *
    have hsv : ¬ sm ≤ v := by omega
    have hvn : v < 0 := by omega
    refine Ret_pad ?_
    by_cases hw0 : 0 ≤ w
    · have hwd : ¬ w ≤ dl := by omega
      simp only [n5, r5, g1, g2, g4, g9, g11, g12, g13, hlt, hw1, netV_len, netV_0, netV_1, take_all, aEq, btt, btf, bft, bff, xp, x1, Bool.not_true, Bool.not_false, hB2X, hplc, l2, x2, hv2, eq_true hw0, eq_false hwd, eq_false hsv, eq_true hvn, SB, Nat.reduceLT, callee, aOp, ne_eq, Nat.reduceEqDiff, aBin, aUn, if_true, if_false, reduceCtorEq, frame0, place, notTuple, Nat.reduceAdd, Nat.reduceLeDiff, resVal, dite_true, dite_false, Int.reduceEq, Int.reduceLT, Int.reduceLE]
      exact hN (i + 1) _ _ ⟨by omega, (by simp only [g1, FB, Nat.reduceEqDiff]), (by simp only [g2, FB, Nat.reduceEqDiff]), (by simp only [g4, FB, Nat.reduceEqDiff]), (by simp only [g9, FB, Nat.reduceEqDiff]), (by simp only [g11, FB, Nat.reduceEqDiff]), (by simp only [g12, FB, Nat.reduceEqDiff]), (by simp only [FB, Nat.reduceEqDiff]), (hX.trans hC2).app⟩ (by omega)
    · simp only [n5, r5, g1, g2, g4, g9, g11, g12, g13, hlt, hw1, netV_len, netV_0, netV_1, take_all, aEq, btt, btf, bft, bff, xp, x1, Bool.not_true, Bool.not_false, hB2X, hplc, l2, x2, hv2, eq_false hw0, eq_false hsv, eq_true hvn, SB, Nat.reduceLT, callee, aOp, ne_eq, Nat.reduceEqDiff, aBin, aUn, if_true, if_false, reduceCtorEq, frame0, place, notTuple, Nat.reduceAdd, Nat.reduceLeDiff, resVal, dite_true, dite_false, Int.reduceEq, Int.reduceLT, Int.reduceLE]
      exact hN (i + 1) _ _ ⟨by omega, (by simp only [g1, FB, Nat.reduceEqDiff]), (by simp only [g2, FB, Nat.reduceEqDiff]), (by simp only [g4, FB, Nat.reduceEqDiff]), (by simp only [g9, FB, Nat.reduceEqDiff]), (by simp only [g11, FB, Nat.reduceEqDiff]), (by simp only [g12, FB, Nat.reduceEqDiff]), (by simp only [FB, Nat.reduceEqDiff]), (hX.trans hC2).app⟩ (by omega)
  · have hvl : ¬ v < low := by omega
    have hvd : ¬ dl < v := by omega
    have hvn : ¬ v < 0 := by omega
    simp only [n5, r5, g1, g2, g4, g9, g11, g12, g13, hlt, hw1, netV_len, netV_0, netV_1, take_all, aEq, btt, btf, bft, bff, xp, x1, Bool.not_true, Bool.not_false, hB5X, hld, lp, eq_false cA, eq_true hv0, eq_false hvl, eq_false hvd, SB, Nat.reduceLT, callee, aOp, ne_eq, Nat.reduceEqDiff, aBin, aUn, if_true, if_false, reduceCtorEq, frame0, place, notTuple, Nat.reduceAdd, Nat.reduceLeDiff, resVal, dite_true, dite_false, Int.reduceEq, Int.reduceLT, Int.reduceLE]
    rw [List.append_nil]
    refine Arrive_ok hnG hlG (fun H1 h => absurd he1 h) fun H2 q2 T2 _ hC2 hT2 hO2 hl2 => ?_
    have hB2 := hC2.cells hBG (by simp)
    have hB2X := fun X => (Ext.refl.app (X := X)).cells hB2
    have hn2 := hn.ext (hEG.trans hC2).ext
    have hplc := fun X (mp : Bool) (lim : Nat) (Q : Value → Heap → Prop) => place_ok (mp := mp) (lim := lim) (cp := cp) (cl := cl) (Q := Q) (p := to) (hn2.app X)
    rw [hpl] at hplc
    have hS2 := hO2.sl encI_len
    have l2 := ld_ints (i := posN P to) hS2 (by omega)
    have x2 := ix_ints (i := posN P to) hS2 hpos hl2
    have hST2 := hC2.ext.sl (hX.ext.sl hS1)
    have hv2 := ld_ints (i := i) hST2 (by omega)
    rw [hgv] at hv2
    have hi := hfin H2 q2 T2 sm (by omega) (by unfold maxTime; omega) (by omega) hT2 hl2
    generalize gt T2 (posN P to) = w at *
    refine Ret_pad ?_
    -- the second arrival: with the latest ready time
    have hE2 := hEG.trans hC2
    have ev := herr v hv0 (by unfold maxTime; omega)
    by_cases hsv : sm ≤ v
    case' pos =>
      have hw := hi.2 hsv
      simp only [n5, r5, g1, g2, g4, g9, g11, g12, g13, hlt, hw1, netV_len, netV_0, netV_1, take_all, aEq, btt, btf, bft, bff, xp, x1, Bool.not_true, Bool.not_false, hB2X, hplc, l2, x2, hv2, eq_true hw.1, eq_true hw.2, eq_true hsv, eq_false hvn, SB, Nat.reduceLT, callee, aOp, ne_eq, Nat.reduceEqDiff, aBin, aUn, if_true, if_false, reduceCtorEq, frame0, place, notTuple, Nat.reduceAdd, Nat.reduceLeDiff, resVal, dite_true, dite_false, Int.reduceEq, Int.reduceLT, Int.reduceLE]
    case' neg =>
      by_cases hw0 : 0 ≤ w
      case' pos =>
        have hwd : ¬ w ≤ dl := by omega
        simp only [n5, r5, g1, g2, g4, g9, g11, g12, g13, hlt, hw1, netV_len, netV_0, netV_1, take_all, aEq, btt, btf, bft, bff, xp, x1, Bool.not_true, Bool.not_false, hB2X, hplc, l2, x2, hv2, eq_true hw0, eq_false hwd, eq_false hsv, eq_false hvn, SB, Nat.reduceLT, callee, aOp, ne_eq, Nat.reduceEqDiff, aBin, aUn, if_true, if_false, reduceCtorEq, frame0, place, notTuple, Nat.reduceAdd, Nat.reduceLeDiff, resVal, dite_true, dite_false, Int.reduceEq, Int.reduceLT, Int.reduceLE]
      case' neg =>
        simp only [n5, r5, g1, g2, g4, g9, g11, g12, g13, hlt, hw1, netV_len, netV_0, netV_1, take_all, aEq, btt, btf, bft, bff, xp, x1, Bool.not_true, Bool.not_false, hB2X, hplc, l2, x2, hv2, eq_false hw0, eq_false hsv, eq_false hvn, SB, Nat.reduceLT, callee, aOp, ne_eq, Nat.reduceEqDiff, aBin, aUn, if_true, if_false, reduceCtorEq, frame0, place, notTuple, Nat.reduceAdd, Nat.reduceLeDiff, resVal, dite_true, dite_false, Int.reduceEq, Int.reduceLT, Int.reduceLE]
    all_goals
      rw [List.append_nil]
      refine Arrive_ok hn2 hE2.len (fun H1 h => absurd ev h) fun H3 q3 T3 _ hC3 hT3 hO3 hl3 => ?_
      have hB3 := hC3.cells hB2 (by simp)
      have hB3X := fun X => (Ext.refl.app (X := X)).cells hB3
      have hE3 := hE2.trans hC3
      have hn3 := hn.ext hE3.ext
      have hplc := fun X (mp : Bool) (lim : Nat) (Q : Value → Heap → Prop) => place_ok (mp := mp) (lim := lim) (cp := cp) (cl := cl) (Q := Q) (p := to) (hn3.app X)
      rw [hpl] at hplc
      have hS3 := hO3.sl encI_len
      have l3 := ld_ints (i := posN P to) hS3 (by omega)
      have x3 := ix_ints (i := posN P to) hS3 hpos hl3
      have hST3 := hC3.ext.sl hST2
      have hv3 := ld_ints (i := i) hST3 (by omega)
      rw [hgv] at hv3
      have hi3 := (hfin H3 q3 T3 v (by omega) (by unfold maxTime; omega) (by omega) hT3 hl3).2 (Int.le_refl _)
      generalize gt T3 (posN P to) = w3 at *
      have c31 : ¬ w3 < 0 := by omega
      have c32 : ¬ dl < w3 := by omega
      refine Ret_pad ?_
      by_cases hvm : v = 1051898399
      · simp only [n5, r5, g1, g2, g4, g9, g11, g12, g13, hlt, hw1, netV_len, netV_0, netV_1, take_all, aEq, btt, btf, bft, bff, xp, x1, Bool.not_true, Bool.not_false, hB3X, hplc, l3, x3, hv3, eq_false c31, eq_false c32, eq_true hvm, SB, Nat.reduceLT, callee, aOp, ne_eq, Nat.reduceEqDiff, aBin, aUn, if_true, if_false, reduceCtorEq, frame0, place, notTuple, Nat.reduceAdd, Nat.reduceLeDiff, resVal, dite_true, dite_false, Int.reduceEq, Int.reduceLT, Int.reduceLE]
        exact hN (i + 1) _ _ ⟨by omega, (by simp only [g1, FB, Nat.reduceEqDiff]), (by simp only [g2, FB, Nat.reduceEqDiff]), (by simp only [g4, FB, Nat.reduceEqDiff]), (by simp only [g9, FB, Nat.reduceEqDiff]), (by simp only [g11, FB, Nat.reduceEqDiff]), (by simp only [g12, FB, Nat.reduceEqDiff]), (by simp only [FB, Nat.reduceEqDiff]), ((hX.trans hC2).trans hC3).app⟩ (by omega)
      · have ev1 := herr (v + 1) (by omega) (by unfold maxTime; omega)
        have wv : IntKind.i64.wrap (v + 1) = v + 1 := wrap_id (by omega) (by omega)
        simp only [n5, r5, g1, g2, g4, g9, g11, g12, g13, hlt, hw1, netV_len, netV_0, netV_1, take_all, aEq, btt, btf, bft, bff, xp, x1, Bool.not_true, Bool.not_false, hB3X, hplc, l3, x3, hv3, eq_false c31, eq_false c32, eq_false hvm, wv, SB, Nat.reduceLT, callee, aOp, ne_eq, Nat.reduceEqDiff, aBin, aUn, if_true, if_false, reduceCtorEq, frame0, place, notTuple, Nat.reduceAdd, Nat.reduceLeDiff, resVal, dite_true, dite_false, Int.reduceEq, Int.reduceLT, Int.reduceLE]
        rw [List.append_nil]
        refine Arrive_ok hn3 hE3.len (fun H1 h => absurd ev1 h) fun H4 q4 T4 _ hC4 hT4 hO4 hl4 => ?_
        have hB4 := hC4.cells hB3 (by simp)
        have hB4X := fun X => (Ext.refl.app (X := X)).cells hB4
        have hE4 := hE3.trans hC4
        have hn4 := hn.ext hE4.ext
        have hplc := fun X (mp : Bool) (lim : Nat) (Q : Value → Heap → Prop) => place_ok (mp := mp) (lim := lim) (cp := cp) (cl := cl) (Q := Q) (p := to) (hn4.app X)
        rw [hpl] at hplc
        have hS4 := hO4.sl encI_len
        have l4 := ld_ints (i := posN P to) hS4 (by omega)
        have x4 := ix_ints (i := posN P to) hS4 hpos hl4
        have hi4 := hfin H4 q4 T4 (v + 1) (by omega) (by unfold maxTime; omega) (by omega) hT4 hl4
        generalize gt T4 (posN P to) = w4 at *
        refine Ret_pad ?_
        by_cases hw4 : 0 ≤ w4
        · have hwd4 : ¬ w4 ≤ dl := by omega
          simp only [n5, r5, g1, g2, g4, g9, g11, g12, g13, hlt, hw1, netV_len, netV_0, netV_1, take_all, aEq, btt, btf, bft, bff, xp, x1, Bool.not_true, Bool.not_false, hB4X, hplc, l4, x4, eq_true hw4, eq_false hwd4, SB, Nat.reduceLT, callee, aOp, ne_eq, Nat.reduceEqDiff, aBin, aUn, if_true, if_false, reduceCtorEq, frame0, place, notTuple, Nat.reduceAdd, Nat.reduceLeDiff, resVal, dite_true, dite_false, Int.reduceEq, Int.reduceLT, Int.reduceLE]
          exact hN (i + 1) _ _ ⟨by omega, (by simp only [g1, FB, Nat.reduceEqDiff]), (by simp only [g2, FB, Nat.reduceEqDiff]), (by simp only [g4, FB, Nat.reduceEqDiff]), (by simp only [g9, FB, Nat.reduceEqDiff]), (by simp only [g11, FB, Nat.reduceEqDiff]), (by simp only [g12, FB, Nat.reduceEqDiff]), (by simp only [FB, Nat.reduceEqDiff]), (((hX.trans hC2).trans hC3).trans hC4).app⟩ (by omega)
        · simp only [n5, r5, g1, g2, g4, g9, g11, g12, g13, hlt, hw1, netV_len, netV_0, netV_1, take_all, aEq, btt, btf, bft, bff, xp, x1, Bool.not_true, Bool.not_false, hB4X, hplc, l4, x4, eq_false hw4, SB, Nat.reduceLT, callee, aOp, ne_eq, Nat.reduceEqDiff, aBin, aUn, if_true, if_false, reduceCtorEq, frame0, place, notTuple, Nat.reduceAdd, Nat.reduceLeDiff, resVal, dite_true, dite_false, Int.reduceEq, Int.reduceLT, Int.reduceLE]
          exact hN (i + 1) _ _ ⟨by omega, (by simp only [g1, FB, Nat.reduceEqDiff]), (by simp only [g2, FB, Nat.reduceEqDiff]), (by simp only [g4, FB, Nat.reduceEqDiff]), (by simp only [g9, FB, Nat.reduceEqDiff]), (by simp only [g11, FB, Nat.reduceEqDiff]), (by simp only [g12, FB, Nat.reduceEqDiff]), (by simp only [FB, Nat.reduceEqDiff]), (((hX.trans hC2).trans hC3).trans hC4).app⟩ (by omega)
end Go.Proofs.Ytcmhnincbkbncaa.Fn
