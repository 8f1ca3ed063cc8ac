/-
  Joined texts, 4 of 6. A part of the claim that the last text states.
-/
import Derived.Sort.AssemblyPlain
import Derived.Test.YtdddehniepofmaaPB3
set_option linter.unusedVariables false
set_option linter.unusedSimpArgs false
namespace Go.AM
section
variable {α : Type}
/-- The heap G, with the elements d in block B. -/
def DH (enc : α → List Value) (G : Heap) (B : Nat) (d : Array α) : Heap := G.set B (.cells false (d.toList.flatMap enc))
variable [Inhabited α] {enc : α → List Value} {G X : Heap} {B e i : Nat} {d : Array α} {p : Option Addr} {lim : Nat}
omit [Inhabited α] in
theorem DH_len : (DH enc G B d).length = G.length := by simp [DH]
omit [Inhabited α] in
theorem DH_get (hB : B < G.length) : hget (DH enc G B d ++ X) B = .cells false (d.toList.flatMap enc) := by
  rw [hget_old (by rw [DH_len]; exact hB)]
  exact hget_set_eq hB
omit [Inhabited α] in
theorem DH_other {j : Nat} (hj : j ≠ B) (hB : j < G.length) : hget (DH enc G B d ++ X) j = hget G j := by
  rw [hget_old (by rw [DH_len]; exact hB)]
  exact hget_set_ne hj
omit [Inhabited α] in
theorem DH_sl (hp : p = some ⟨B, 0, none⟩) (hB : B < G.length) (he : ∀ x, (enc x).length = e) : Sl (DH enc G B d ++ X) enc e p d.toList := by
  subst hp
  refine Sl.lit he ?_ ?_
  · rw [DH_get hB]; rfl
  · rw [DH_get hB]; rfl
theorem gt_arr {α : Type} [Inhabited α] (d : Array α) (i : Nat) : gt d.toList i = d[i]! := by
  unfold gt
  rw [List.getD_eq_getElem?_getD, Array.getElem?_toList, getElem!_def]
  cases d[i]? <;> rfl
theorem DH_ld (hp : p = some ⟨B, 0, none⟩) (hB : B < G.length) (he : ∀ x, (enc x).length = e) (hi : i < d.size) : AM.loadCells (DH enc G B d ++ X) (elt p e i) e = some (enc d[i]!) := by
  rw [(DH_sl hp hB he).loadCells he (by simpa using hi), gt_arr]
omit [Inhabited α] in
theorem flat_set (he : ∀ x, (enc x).length = e) (y : α) : ∀ (l : List α) (i : Nat), i < l.length → setAll (l.flatMap enc) (i * e) (enc y) = (l.set i y).flatMap enc := by
  have key : ∀ (vs a b c : List Value) , vs.length = b.length → setAll (a ++ b ++ c) a.length vs = a ++ vs ++ c := by
    intro vs
    induction vs with
    | nil => intro a b c h; simp at h; have : b = [] := List.length_eq_zero_iff.1 h.symm; subst this; rfl
    | cons v vs ih =>
      intro a b c h
      match b, h with
      | x :: b, h =>
        rw [setAll_cons]
        have e1 : (a ++ x :: b ++ c).set a.length v = (a ++ [v]) ++ b ++ c := by simp
        rw [e1]
        have := ih (a ++ [v]) b c (by simpa using h)
        rw [List.length_append] at this
        simp only [List.length_cons, List.length_nil, Nat.zero_add] at this
        rw [this]; simp
  intro l i hi
  have e1 : l.flatMap enc = (l.take i).flatMap enc ++ enc l[i] ++ (l.drop (i + 1)).flatMap enc := by
    have e0 : l = l.take i ++ l[i] :: l.drop (i + 1) := by rw [← List.drop_eq_getElem_cons hi, List.take_append_drop]
    have := congrArg (List.flatMap enc) e0
    rw [List.flatMap_append, List.flatMap_cons] at this
    rw [this, List.append_assoc]
  have e2 : (l.set i y).flatMap enc = (l.take i).flatMap enc ++ enc y ++ (l.drop (i + 1)).flatMap enc := by
    rw [List.set_eq_take_append_cons_drop, if_pos hi]; simp
  have e3 : i * e = ((l.take i).flatMap enc).length := by rw [flat_len he, List.length_take, Nat.min_eq_left (by omega)]
  rw [e1, e2, e3]
  exact key _ _ _ _ (by rw [he, he])
omit [Inhabited α] in
theorem DH_st (hp : p = some ⟨B, 0, none⟩) (hB : B < G.length) (hl : lim ≤ B) (he : ∀ x, (enc x).length = e) (hi : i < d.size) {y : α} : AM.storeAt lim (DH enc G B d ++ X) (elt p e i) (enc y) = some (DH enc G B (d.setIfInBounds i y) ++ X) := by
  subst hp
  have h1 : i * e + e ≤ d.size * e := by
    have := Nat.mul_le_mul_right e (Nat.succ_le_of_lt hi)
    rw [Nat.succ_mul] at this; exact this
  simp only [elt, addrOf, Option.getD_some, addr_add, storeAt_lit, DH_get hB, Nat.zero_add]
  rw [if_pos ⟨hl, by rw [he, flat_len he]; simpa using h1⟩, flat_set he y _ _ (by simpa using hi)]
  congr 1
  rw [List.set_append_left _ _ (by rw [DH_len]; exact hB)]
  simp only [DH, List.set_set]
  congr 3
  simp
omit [Inhabited α] in
theorem DH_idx {n c : Nat} {k : IntKind} {H : Heap} (hp : p = some ⟨B, 0, none⟩) (hi : i < n) : idxK e (.slice p n c) (.int k (i : Int)) H = some (.pointer (some (elt p e i)), H) := by
  subst hp
  exact idxK_nat hi
end
end Go.AM
set_option linter.unusedVariables false
set_option linter.unusedSimpArgs false
set_option linter.defProp false
namespace Go.AM
set_option maxRecDepth 100000
def SB := And.intro @Ret_seq (And.intro @wantK_tt (And.intro @wantK_ff (And.intro @wantK_tf (And.intro @wantK_ft (And.intro @condK_tt (And.intro @condK_ff (And.intro @int_beq (And.intro @int_bne (And.intro @not_dec (And.intro @fillParts_cons (And.intro @fillParts_nil (And.intro @fillK_some (And.intro @fillV_int (And.intro @fillV_bool (And.intro @fillV_agg (And.intro @setAll_nil (And.intro @setAll_cons (And.intro @Ret_cops (And.intro @Ret_exit_code (And.intro @Ret_exit_loop (And.intro @Ret_exit_other (And.intro @Ret_exit_here (And.intro @Ret_skip (And.intro @Ret_block (And.intro @Ret_inBlock (And.intro @Ret_cond (And.intro @Ret_is (And.intro @Ret_in (And.intro @false_and (And.intro @and_false (And.intro @Ret_ops_nil (And.intro @Ret_ret (And.intro @decide_true (And.intro @gK_none (And.intro @gK_some (And.intro @on_mov (And.intro @on_pick (And.intro @on_bin (And.intro @on_eqv (And.intro @on_un (And.intro @on_conv (And.intro @on_alloc (And.intro @on_box (And.intro @on_build (And.intro @on_buildSlice (And.intro @on_load1 (And.intro @on_loadN (And.intro @on_store (And.intro @on_nilCheck (And.intro @on_fieldAddr (And.intro @on_field1 (And.intro @on_fieldN (And.intro @on_idxAddrA (And.intro @on_idxAddrS (And.intro @on_idxA (And.intro @on_idxStr (And.intro @on_sliceS (And.intro @on_sliceA (And.intro @on_sliceStr (And.intro @on_lenStr (And.intro @on_lenSlice (And.intro @on_lenMap (And.intro @on_lenK (And.intro @on_append (And.intro @on_append0 (And.intro @on_appendL (And.intro @on_copy (And.intro @on_minmax (And.intro @on_makeSlice (And.intro @on_makeMap (And.intro @on_lookup (And.intro @on_mapUpdate (And.intro @on_delete (And.intro @on_makeFunc (And.intro @on_extract (And.intro @on_strId (And.intro @on_rowMark (And.intro @ob_mov (And.intro @ob_pick (And.intro @ob_bin (And.intro @ob_eqv (And.intro @ob_un (And.intro @ob_conv (And.intro @ob_alloc (And.intro @ob_box (And.intro @ob_build (And.intro @ob_buildSlice (And.intro @ob_load1 (And.intro @ob_loadN (And.intro @ob_store (And.intro @ob_nilCheck (And.intro @ob_fieldAddr (And.intro @ob_field1 (And.intro @ob_fieldN (And.intro @ob_idxAddrA (And.intro @ob_idxAddrS (And.intro @ob_idxA (And.intro @ob_idxStr (And.intro @ob_sliceS (And.intro @ob_sliceA (And.intro @ob_sliceStr (And.intro @ob_lenStr (And.intro @ob_lenSlice (And.intro @ob_lenMap (And.intro @ob_lenK (And.intro @ob_append (And.intro @ob_append0 (And.intro @ob_appendL (And.intro @ob_copy (And.intro @ob_minmax (And.intro @ob_makeSlice (And.intro @ob_makeMap (And.intro @ob_lookup (And.intro @ob_mapUpdate (And.intro @ob_delete (And.intro @ob_makeFunc (And.intro @ob_extract (And.intro @ob_strId (And.intro @ob_rowMark (And.intro @oK_call (And.intro @oK_callB (And.intro @calK_some (And.intro @pure_any (And.intro @pure_pure (And.intro @pure_mk (And.intro @lim_any (And.intro @lim_pure (And.intro @lim_mk (And.intro @CallT_inl (And.intro @CallT_inr (And.intro @Ret_retM (And.intro @marks_nil (And.intro @marks_code (And.intro @marks_loop (And.intro @marks_block (And.intro @marks_mark (And.intro @shut_nil (And.intro @shut_cons (And.intro @shutK_some (And.intro @Ret_round (And.intro @Ret_begin (And.intro @begK_loop (And.intro @endB_on (And.intro @endB_off (And.intro @Ret_retR_code (And.intro @Ret_retR_loop (And.intro @Ret_retR_block (And.intro @Ret_retR_round (And.intro @Ret_exitR_code (And.intro @Ret_exitR_loop (And.intro @Ret_exitR_other (And.intro @Ret_exitR_here (And.intro @Ret_exitR_round (And.intro @calL_some (And.intro @endK_0 (And.intro @endK_2 (And.intro @pendI_none (And.intro @pendI_some (And.intro @Ret_rangeF (And.intro @List.map_cons.{0,0} (And.intro @List.map_nil.{0,0} (And.intro @Option.map_none.{0,0} (And.intro @mask_nil (And.intro @mask_cons (And.intro @unmask_cons (And.intro @pad_one (And.intro @pad_zero (And.intro @pad_two (And.intro @pad_three (And.intro @Ret_drawn (And.intro @Nat.add_assoc (And.intro @unmask_nil (And.intro @unmask_mask (And.intro @ev_tmp (And.intro @ev_const (And.intro @ev_func (And.intro @upd_same (And.intro @upd_ne (And.intro @not_false_eq_true (And.intro @opK_some (And.intro @Option.map_some.{0,0} (And.intro @List.getD_cons_zero.{0} (And.intro @List.getD_cons_succ.{0} (And.intro @decide_false (And.intro @Bool.false_eq_true (And.intro @not_true_eq_false (And.intro @and_true (And.intro @true_and (And.intro @hget_new (And.intro @hget_new0 (And.intro @hget_old (And.intro @set_new (And.intro @set_new0 (And.intro @List.set_cons_zero.{0} (And.intro @List.set_cons_succ.{0} (And.intro @List.append_assoc.{0} (And.intro @List.cons_append.{0} (And.intro @List.nil_append.{0} (And.intro @storeAt_lit (And.intro @loadCell_lit (And.intro @loadCells_lit (And.intro @idxK_nat (And.intro @List.length_cons.{0} (And.intro @List.length_nil.{0} (And.intro @addr_add (And.intro @List.drop_zero.{0} (And.intro @List.drop_succ_cons.{0} (And.intro @List.take_succ_cons.{0} (And.intro @List.take_zero.{0} (And.intro @Nat.le_refl (And.intro @Nat.le_add_right (And.intro @Nat.zero_add (And.intro @Nat.add_zero (And.intro @result_fin (And.intro @resAll_nil (And.intro @resAll_cons (And.intro @consK_some (And.intro @finK_one (And.intro @finK_more (And.intro @finK_nil (And.intro @cells_agg (And.intro @cells_int (And.intro @cells_bool (And.intro @arr_list (And.intro @arr_size (And.intro @Option.some.injEq.{0} (And.intro @Prod.mk.injEq.{0,0} (And.intro @List.length_append.{0} (And.intro @List.getElem?_cons_zero.{0} (And.intro @List.getElem?_cons_succ.{0} (And.intro @Nat.lt_irrefl (And.intro @and_self (And.intro @int_lt_cast (And.intro @int_le_cast (And.intro @wantK_not (And.intro @condK_not (And.intro @Bool.not_true (And.intro @Bool.not_false (And.intro @Nat.le_add_right_of_le (And.intro @int_zero_lt (And.intro @wantK_undef (And.intro @keyOk_int (And.intro @keyOk_str (And.intro @findKey_nil (And.intro @findKey_int (And.intro @mapEntries_some (And.intro @mapEntries_none (And.intro @Int.cast_ofNat_Int (And.intro @idxK_zero (And.intro @Ret_nil (And.intro @cells_slice (And.intro @cells_ptr (And.intro @cells_str (And.intro @cells_map (And.intro @cells_func (And.intro @arr1 (And.intro @size1 (And.intro @fillV_slice (And.intro @fillV_ptr (And.intro @fillV_str (And.intro @fillV_map (And.intro @nat_not_neg (And.intro @setAll_full (And.intro @Option.isNone_none.{0} (And.intro @Option.isNone_some.{0} (And.intro @Int.toNat_natCast (And.intro @take_all (And.intro @setAll_skip (And.intro @pad_4 (And.intro @pad_5 (And.intro @pad_6 (And.intro @pad_7 (And.intro @pad_8 (And.intro @pad_9 (And.intro @pad_10 (And.intro @pad_11 (And.intro @pad_12 (And.intro @bytesOf_cons (And.intro @bytesOf_nil (And.intro @int_eq_cast (And.intro @on_b2sV (And.intro @ob_b2sV (And.intro @b2sV_some (@aSliceS_V))))))))))))))))))))))))))))))))))))))))))))))))))))))))))))))))))))))))))))))))))))))))))))))))))))))))))))))))))))))))))))))))))))))))))))))))))))))))))))))))))))))))))))))))))))))))))))))))))))))))))))))))))))))))))))))))))))))))))))))))))))))))))))))))))))))))))))))))))))))))))))
end Go.AM
set_option linter.unusedVariables false
set_option linter.unusedSimpArgs false
namespace Go.AM
section
variable {G G' K : Heap} {R : Nat} {b : Blk}
/-- G', but for the block R, is G. -/
structure Mut (G G' : Heap) (R : Nat) : Prop where
  len : G'.length = G.length
  other : ∀ j, j ≠ R → hget G' j = hget G j
theorem Mut.ext {H : Heap} (h : Mut G G' R) (hE : Ext H G) (hR : H.length ≤ R) : Ext H G' := by
  obtain ⟨Y, rfl⟩ := hE
  refine ⟨G'.drop H.length, ?_⟩
  apply List.ext_getElem
  · have := h.len; simp at this ⊢; omega
  intro i h1 h2
  have hl := h.len
  simp at hl
  by_cases hi : i < H.length
  · rw [List.getElem_append_left hi]
    have := h.other i (by omega)
    unfold hget at this
    rw [List.getD_eq_getElem?_getD, List.getD_eq_getElem?_getD, List.getElem?_eq_getElem h1, List.getElem?_eq_getElem (by simp; omega)] at this
    simp only [Option.getD_some] at this
    rw [this, List.getElem_append_left hi]
  · rw [List.getElem_append_right (by omega), List.getElem_drop]
    congr 1
    omega
theorem Mut.cells (h : Mut G G' R) {j : Nat} {ro : Bool} {c : List Value} (hj : hget G j = .cells ro c) (hne : j ≠ R) : hget G' j = .cells ro c := by rw [h.other j hne]; exact hj
theorem Mut.alive (h : Mut G G' R) {j : Nat} {B : Blk} (hj : hget G j = B) (hne : j ≠ R) : hget G' j = B := by rw [h.other j hne]; exact hj
/-- A slice that lies apart. -/
theorem Mut.sl {α : Type} {enc : α → List Value} {e : Nat} {p : Option Addr} {l : List α} (h : Mut G G' R) (hs : Sl G enc e p l) (hp : ∀ a, p = some a → l ≠ [] → a.block ≠ R) : Sl G' enc e p l := by
  cases p with
  | none => exact hs
  | some a =>
    refine ⟨hs.1, fun hn => ?_⟩
    obtain ⟨ro, c, h2, h3⟩ := hs.2 hn
    exact ⟨ro, c, h.cells h2 (hp a rfl hn), h3⟩
/-- How places of a heap that is as long are looked up. -/
theorem len_rules (h : G'.length = G.length) : (G'.length = G.length) ∧ (∀ (X : Heap) (j : Nat), hget (G' ++ X) (G.length + j) = X.getD j .dead) ∧ (∀ X : Heap, hget (G' ++ X) G.length = X.getD 0 .dead) ∧
    (∀ (X : Heap) (j : Nat) b, (G' ++ X).set (G.length + j) b = G' ++ X.set j b) ∧ (∀ (X : Heap) b, (G' ++ X).set G.length b = G' ++ X.set 0 b) := by
  refine ⟨h, fun X j => by rw [← h]; exact hget_new, fun X => by rw [← h]; exact hget_new0, fun X j b => ?_, fun X b => ?_⟩
  · rw [← h, List.set_append_right _ _ (by omega)]; simp
  · rw [← h, List.set_append_right _ _ (by omega)]; simp
theorem mut_set (hR : R < G.length) (b : Blk) : ∃ G', (∀ X : Heap, (G ++ X).set R b = G' ++ X) ∧ hget G' R = b ∧ Mut G G' R :=
  ⟨G.set R b, fun X => List.set_append_left _ _ hR, hget_set_eq hR, by simp, fun j hj => hget_set_ne hj⟩
end

/-- A slice of one's own, that grows. -/
def Own {α : Type} (lim : Nat) (G : Heap) (enc : α → List Value) (e : Nat) (p : Option Addr) (cap : Nat) (l : List α) : Prop :=
  (l = [] ∧ p = none ∧ cap = 0) ∨ ∃ R, p = some ⟨R, 0, none⟩ ∧ cap = loose e ∧ hget G R = .cells false (l.flatMap enc) ∧ lim ≤ R
section
variable {α : Type} {lim e bytes cap : Nat} {G : Heap} {enc : α → List Value} {p : Option Addr} {l m : List α}
theorem Own.nil : Own lim G enc e none 0 [] := .inl ⟨rfl, rfl, rfl⟩
theorem Own.app (h : Own lim G enc e p cap l) (X : Heap) : Own lim (G ++ X) enc e p cap l := by
  rcases h with h | ⟨R, h1, h2, h3, h4⟩
  · exact .inl h
  · exact .inr ⟨R, h1, h2, by rw [hget_old (hget_alive h3)]; exact h3, h4⟩
theorem Own.mut {G' : Heap} {R : Nat} (h : Own lim G enc e p cap l) (hm : Mut G G' R) (hp : ∀ a, p = some a → a.block ≠ R) : Own lim G' enc e p cap l := by
  rcases h with h | ⟨R', h1, h2, h3, h4⟩
  · exact .inl h
  · exact .inr ⟨R', h1, h2, hm.cells h3 (hp _ h1), h4⟩
theorem Own.new {R : Nat} (hR : hget G R = .cells false (l.flatMap enc)) (hl : lim ≤ R) : Own lim G enc e (some ⟨R, 0, none⟩) (loose e) l := .inr ⟨R, rfl, rfl, hR, hl⟩
theorem Own.sl (h : Own lim G enc e p cap l) (he : ∀ x, (enc x).length = e) : Sl G enc e p l := by
  rcases h with ⟨h1, h2, _⟩ | ⟨R, h1, h2, h3, h4⟩
  · subst h1 h2; rfl
  · subst h1; exact Sl.lit he (by rw [h3]; rfl) (by rw [h3]; rfl)
theorem Own.le (h : Own lim G enc e p cap l) {lim' : Nat} (hl : lim' ≤ lim) : Own lim' G enc e p cap l := by
  rcases h with h | ⟨R, h1, h2, h3, h4⟩
  · exact .inl h
  · exact .inr ⟨R, h1, h2, h3, by omega⟩
theorem Own.block (h : Own lim G enc e p cap l) {a : Addr} (ha : p = some a) : lim ≤ a.block ∧ a.block < G.length := by
  rcases h with ⟨h1, h2, h3⟩ | ⟨R, h1, h2, h3, h4⟩
  · rw [h2] at ha; cases ha
  · rw [h1] at ha; cases ha; exact ⟨h4, hget_alive h3⟩
theorem Sl.cells (hs : Sl G enc e p m) (hm : m ≠ []) : ∃ a, p = some a ∧ AM.loadCells G a (m.length * e) = some (m.flatMap enc) := by
  cases p with
  | none => exact absurd hs hm
  | some a =>
    obtain ⟨k1, k2⟩ := hs
    obtain ⟨ro, cs, k3, k4, k5⟩ := k2 hm
    refine ⟨a, rfl, ?_⟩
    obtain ⟨ab, ao, as'⟩ := a
    simp only [loadCells_lit]
    simp only at k3 k4 k5
    simp only [k3]
    rw [if_pos k4, k5]
/-- More elements behind: where they lie then, and that all else is as it was. -/
theorem Own.push {lim' : Nat} (h : Own lim G enc e p cap l) (hll : lim' ≤ lim) (he : ∀ x, (enc x).length = e) (he0 : e ≠ 0) (m : List α) (hm : m ≠ []) (hb : (l.length + m.length) * bytes ≤ maxBytes) (hn : l.length + m.length < 2 ^ 61) :
    ∃ (G' : Heap) (R : Nat), (p = none → R = G.length) ∧ (∀ a, p = some a → R = a.block) ∧ Mut G G' R ∧ (∀ j, j ≠ R → hget G' j = hget G j) ∧ (∀ H0 : Heap, Ext H0 G → H0.length ≤ lim → Ext H0 G') ∧
      (∀ (X : Heap) (px : Option Addr) (k : Nat), Sl (G ++ X) enc e px m → aAppend lim' none e bytes false (.slice p l.length cap) (.slice px m.length k) (G ++ X) = some (.slice (some ⟨G.length + X.length, 0, none⟩) (l.length + m.length) (loose e), G' ++ (X ++ [.cells false ((l ++ m).flatMap enc)]))) := by
  have hm0 : ¬ m.length = 0 := by intro q; exact hm (List.length_eq_zero_iff.1 q)
  rcases h with ⟨h1, h2, h3⟩ | ⟨R, h1, h2, h3, h4⟩
  · subst h1 h2 h3
    refine ⟨G, G.length, fun _ => rfl, fun a h => (by cases h), ⟨rfl, fun j _ => rfl⟩, fun j _ => rfl, fun H0 h _ => h, fun X px k hx => ?_⟩
    obtain ⟨a, rfl, hl⟩ := hx.cells hm
    simp only [List.length_nil, Nat.zero_add] at hb hn
    simp only [aAppend, firstCells, lenOf, hl, hm0, if_false, Bool.false_eq_true, List.length_nil, Nat.zero_add]
    rw [if_neg (by omega)]
    simp [place]
  · subst h1 h2
    have hRl := hget_alive h3
    refine ⟨G.set R .dead, R, fun h => (by cases h), fun a h => (by cases h; rfl), ⟨by simp, fun j hj => hget_set_ne hj⟩, fun j hj => hget_set_ne hj, fun H0 h hl => Mut.ext (R := R) ⟨by simp, fun j hj => hget_set_ne hj⟩ h (by omega), fun X px k hx => ?_⟩
    obtain ⟨a, rfl, hl⟩ := hx.cells hm
    have hR' : hget (G ++ X) R = .cells false (l.flatMap enc) := by rw [hget_old hRl]; exact h3
    have hold : AM.loadCells (G ++ X) ⟨R, 0, none⟩ (l.length * e) = some (l.flatMap enc) := by
      simp only [loadCells_lit, hR', Nat.zero_add, flat_len he, Nat.le_refl, if_true, List.drop_zero]
      rw [List.take_of_length_le (by rw [flat_len he]; exact Nat.le_refl _)]
    simp only [aAppend, firstCells, lenOf, hl, hold, hR', hm0, if_false, Bool.false_eq_true, if_true]
    rw [if_neg (by unfold loose; omega)]
    simp [show lim' ≤ R by omega, place, List.set_append_left _ _ hRl, List.append_assoc]
/-- One element behind. -/
theorem Own.push1 {lim' : Nat} (h : Own lim G enc e p cap l) (hll : lim' ≤ lim) (he : ∀ x, (enc x).length = e) (he0 : e ≠ 0) (x : α) (hb : (l.length + 1) * bytes ≤ maxBytes) (hn : l.length + 1 < 2 ^ 61) :
    ∃ (G' : Heap) (R : Nat), (p = none → R = G.length) ∧ (∀ a, p = some a → R = a.block) ∧ Mut G G' R ∧ (∀ H0 : Heap, Ext H0 G → H0.length ≤ lim → Ext H0 G') ∧
      (∀ (X : Heap) (b k : Nat), hget (G ++ X) b = .cells false (enc x) → aAppend lim' none e bytes false (.slice p l.length cap) (.slice (some ⟨b, 0, none⟩) 1 k) (G ++ X) = some (.slice (some ⟨G.length + X.length, 0, none⟩) (l.length + 1) (loose e), G' ++ (X ++ [.cells false ((l ++ [x]).flatMap enc)]))) := by
  obtain ⟨G', R, h1, h2, h3, _, h4, h5⟩ := h.push hll he he0 [x] (by simp) (by simpa using hb) (by simpa using hn)
  refine ⟨G', R, h1, h2, h3, h4, fun X b k hx => ?_⟩
  exact h5 X (some ⟨b, 0, none⟩) k (Sl.lit he (by rw [hx]; rfl) (by rw [hx]; simp [cellsOf]))
/-- Nothing behind. -/
theorem append_none {lim e bytes n cap c : Nat} {dest : Option Nat} {p px : Option Addr} {H : Heap} (he0 : e ≠ 0) (hp : n = 0 ∨ ∃ a, p = some a) (hb : n * bytes ≤ maxBytes) (hn : n < 2 ^ 62) (hc : n ≤ cap) (hx : px = none ∨ ∃ a, px = some a) : aAppend lim dest e bytes false (.slice p n cap) (.slice px 0 c) H = some (.slice p n cap, H) := by
  rcases hx with rfl | ⟨a, rfl⟩
  · simp only [aAppend, firstCells, lenOf, Bool.false_eq_true, ne_eq, not_true_eq_false, or_self, if_false, Nat.add_zero]
    rw [if_neg (by omega)]; rfl
  · simp only [aAppend, firstCells, lenOf, Bool.false_eq_true, if_false, if_true, Nat.add_zero]
    rw [if_neg (by omega)]
theorem bound_nat {k m : Nat} {kk : IntKind} (h : k ≤ m) : bound (.int kk (k : Int)) m = some k := by
  simp only [bound]
  rw [if_pos ⟨by omega, by omega⟩]; simp
/-- The bounds of a slice expression, by their values. -/
def boundsV (len cap : Nat) (lo hi mx : Option Value) : Option (Nat × Nat × Nat) := bounds (fun o => match o with | .const v => v | _ => undef) len cap (lo.map .const) (hi.map .const) (mx.map .const)
theorem bounds_V {ρ : Operand → Value} {len cap : Nat} {lo hi mx : Option Operand} : bounds ρ len cap lo hi mx = boundsV len cap (lo.map ρ) (hi.map ρ) (mx.map ρ) := by
  unfold boundsV
  cases lo <;> cases hi <;> cases mx <;> rfl
theorem bound_int {n : Int} {m : Nat} {kk : IntKind} (h0 : 0 ≤ n) (h : n ≤ (m : Int)) : bound (.int kk n) m = some n.toNat := by
  simp only [bound]; rw [if_pos ⟨h0, h⟩]
section
variable {len : Nat} {k1 k2 k3 : IntKind} {l h x : Int}
theorem bv_000 : boundsV len cap none none none = some (0, len, cap) := rfl
theorem bv_010 (h0 : 0 ≤ h) (h1 : h ≤ (cap : Int)) : boundsV len cap none (some (.int k1 h)) none = some (0, h.toNat, cap) := by
  delta boundsV bounds; simp only [Option.map_some, Option.map_none, bound_int h0 h1]
theorem bv_100 (l0 : 0 ≤ l) (l1 : l ≤ (len : Int)) : boundsV len cap (some (.int k1 l)) none none = some (l.toNat, len, cap) := by
  delta boundsV bounds; simp only [Option.map_some, Option.map_none, bound_int l0 l1]
theorem bv_110 (l0 : 0 ≤ l) (l1 : l ≤ h) (h1 : h ≤ (cap : Int)) : boundsV len cap (some (.int k1 l)) (some (.int k2 h)) none = some (l.toNat, h.toNat, cap) := by
  delta boundsV bounds; simp only [Option.map_some, Option.map_none, bound_int (show 0 ≤ h by omega) h1, bound_int (m := h.toNat) l0 (by omega)]
theorem bv_011 (h0 : 0 ≤ h) (h1 : h ≤ x) (x1 : x ≤ (cap : Int)) : boundsV len cap none (some (.int k1 h)) (some (.int k2 x)) = some (0, h.toNat, x.toNat) := by
  delta boundsV bounds; simp only [Option.map_some, Option.map_none, bound_int (show 0 ≤ x by omega) x1, bound_int (m := x.toNat) h0 (by omega)]
theorem bv_111 (l0 : 0 ≤ l) (l1 : l ≤ h) (h1 : h ≤ x) (x1 : x ≤ (cap : Int)) : boundsV len cap (some (.int k3 l)) (some (.int k1 h)) (some (.int k2 x)) = some (l.toNat, h.toNat, x.toNat) := by
  delta boundsV bounds; simp only [Option.map_some, Option.map_none, bound_int (show 0 ≤ x by omega) x1, bound_int (m := x.toNat) (show 0 ≤ h by omega) (by omega), bound_int (m := h.toNat) l0 (by omega)]
end
theorem nat_nn {n : Nat} : (0 : Int) ≤ (n : Int) := by omega
/-- What is cut out of a slice, and put behind its beginning. -/
theorem append_cut {lim n o m R c : Nat} {dest : Option Nat} {H : Heap} {cs : List Value} (hR : hget H R = .cells false cs) (hl : lim ≤ R) (he0 : e ≠ 0) (hm : m ≠ 0) (h1 : n * e ≤ cs.length) (h2 : o + m * e ≤ cs.length) (hb : (n + m) * bytes ≤ maxBytes) (hn : n + m < 2 ^ 61) :
    aAppend lim dest e bytes false (.slice (some ⟨R, 0, none⟩) n (loose e)) (.slice (some ⟨R, o, none⟩) m c) H = some (.slice (some ⟨(place dest (.cells false (cs.take (n * e) ++ (cs.drop o).take (m * e))) (H.set R .dead)).1, 0, none⟩) (n + m) (loose e), (place dest (.cells false (cs.take (n * e) ++ (cs.drop o).take (m * e))) (H.set R .dead)).2) := by
  have hx : AM.loadCells H ⟨R, o, none⟩ (m * e) = some ((cs.drop o).take (m * e)) := by
    simp only [loadCells_lit, hR]; rw [if_pos h2]
  have hy : AM.loadCells H ⟨R, 0, none⟩ (n * e) = some (cs.take (n * e)) := by
    simp only [loadCells_lit, hR, Nat.zero_add, List.drop_zero]; rw [if_pos h1]
  simp only [aAppend, firstCells, lenOf, hx, hy, hR, hm, hl, if_false, if_true, Bool.false_eq_true]
  rw [if_neg (by unfold loose; omega)]
end
/-- The parts of a sequence. -/
def hdC : ACode → ACode
  | .seq a _ => a
  | c => c
def tlC : ACode → ACode
  | .seq _ b => b
  | _ => .skip
end Go.AM
