/-
  Joined texts, 4 of 6. A part of the claim that the last text states.
-/
import Derived.Sort.AssemblyPlain
import Derived.Test.YtdddehniepofmaaPD3
set_option linter.unusedVariables false
set_option linter.unusedSimpArgs false
namespace Go.AM
section
variable {α : Type}
/-- The heap G, with the elements d in block B. -/
def DH (enc : α → List Value) (G : Heap) (B : Nat) (d : Array α) : Heap := G.set B (.cells false (d.toList.flatMap enc))
variable [Inhabited α] {enc : α → List Value} {G X : Heap} {B e i : Nat} {d : Array α} {p : Option Addr} {lim : Nat}
omit [Inhabited α] in
theorem DH_len : (DH enc G B d).length = G.length := by simp [DH]
omit [Inhabited α] in
theorem DH_get (hB : B < G.length) : hget (DH enc G B d ++ X) B = .cells false (d.toList.flatMap enc) := by
  rw [hget_old (by rw [DH_len]; exact hB)]
  exact hget_set_eq hB
omit [Inhabited α] in
theorem DH_other {j : Nat} (hj : j ≠ B) (hB : j < G.length) : hget (DH enc G B d ++ X) j = hget G j := by
  rw [hget_old (by rw [DH_len]; exact hB)]
  exact hget_set_ne hj
omit [Inhabited α] in
theorem DH_sl (hp : p = some ⟨B, 0, none⟩) (hB : B < G.length) (he : ∀ x, (enc x).length = e) : Sl (DH enc G B d ++ X) enc e p d.toList := by
  subst hp
  refine Sl.lit he ?_ ?_
  · rw [DH_get hB]; rfl
  · rw [DH_get hB]; rfl
theorem gt_arr {α : Type} [Inhabited α] (d : Array α) (i : Nat) : gt d.toList i = d[i]! := by
  unfold gt
  rw [List.getD_eq_getElem?_getD, Array.getElem?_toList, getElem!_def]
  cases d[i]? <;> rfl
theorem DH_ld (hp : p = some ⟨B, 0, none⟩) (hB : B < G.length) (he : ∀ x, (enc x).length = e) (hi : i < d.size) : AM.loadCells (DH enc G B d ++ X) (elt p e i) e = some (enc d[i]!) := by
  rw [(DH_sl hp hB he).loadCells he (by simpa using hi), gt_arr]
omit [Inhabited α] in
theorem flat_set (he : ∀ x, (enc x).length = e) (y : α) : ∀ (l : List α) (i : Nat), i < l.length → setAll (l.flatMap enc) (i * e) (enc y) = (l.set i y).flatMap enc := by
  have key : ∀ (vs a b c : List Value) , vs.length = b.length → setAll (a ++ b ++ c) a.length vs = a ++ vs ++ c := by
    intro vs
    induction vs with
    | nil => intro a b c h; simp at h; have : b = [] := List.length_eq_zero_iff.1 h.symm; subst this; rfl
    | cons v vs ih =>
      intro a b c h
      match b, h with
      | x :: b, h =>
        rw [setAll_cons]
        have e1 : (a ++ x :: b ++ c).set a.length v = (a ++ [v]) ++ b ++ c := by simp
        rw [e1]
        have := ih (a ++ [v]) b c (by simpa using h)
        rw [List.length_append] at this
        simp only [List.length_cons, List.length_nil, Nat.zero_add] at this
        rw [this]; simp
  intro l i hi
  have e1 : l.flatMap enc = (l.take i).flatMap enc ++ enc l[i] ++ (l.drop (i + 1)).flatMap enc := by
    have e0 : l = l.take i ++ l[i] :: l.drop (i + 1) := by rw [← List.drop_eq_getElem_cons hi, List.take_append_drop]
    have := congrArg (List.flatMap enc) e0
    rw [List.flatMap_append, List.flatMap_cons] at this
    rw [this, List.append_assoc]
  have e2 : (l.set i y).flatMap enc = (l.take i).flatMap enc ++ enc y ++ (l.drop (i + 1)).flatMap enc := by
    rw [List.set_eq_take_append_cons_drop, if_pos hi]; simp
  have e3 : i * e = ((l.take i).flatMap enc).length := by rw [flat_len he, List.length_take, Nat.min_eq_left (by omega)]
  rw [e1, e2, e3]
  exact key _ _ _ _ (by rw [he, he])
omit [Inhabited α] in
theorem DH_st (hp : p = some ⟨B, 0, none⟩) (hB : B < G.length) (hl : lim ≤ B) (he : ∀ x, (enc x).length = e) (hi : i < d.size) {y : α} : AM.storeAt lim (DH enc G B d ++ X) (elt p e i) (enc y) = some (DH enc G B (d.setIfInBounds i y) ++ X) := by
  subst hp
  have h1 : i * e + e ≤ d.size * e := by
    have := Nat.mul_le_mul_right e (Nat.succ_le_of_lt hi)
    rw [Nat.succ_mul] at this; exact this
  simp only [elt, addrOf, Option.getD_some, addr_add, storeAt_lit, DH_get hB, Nat.zero_add]
  rw [if_pos ⟨hl, by rw [he, flat_len he]; simpa using h1⟩, flat_set he y _ _ (by simpa using hi)]
  congr 1
  rw [List.set_append_left _ _ (by rw [DH_len]; exact hB)]
  simp only [DH, List.set_set]
  congr 3
  simp
omit [Inhabited α] in
theorem DH_idx {n c : Nat} {k : IntKind} {H : Heap} (hp : p = some ⟨B, 0, none⟩) (hi : i < n) : idxK e (.slice p n c) (.int k (i : Int)) H = some (.pointer (some (elt p e i)), H) := by
  subst hp
  exact idxK_nat hi
end
end Go.AM
set_option linter.unusedVariables false
set_option linter.unusedSimpArgs false
set_option linter.defProp false
namespace Go.AM
set_option maxRecDepth 100000
def SB := And.intro @Ret_seq (And.intro @wantK_tt (And.intro @wantK_ff (And.intro @wantK_tf (And.intro @wantK_ft (And.intro @condK_tt (And.intro @condK_ff (And.intro @int_beq (And.intro @int_bne (And.intro @not_dec (And.intro @fillParts_cons (And.intro @fillParts_nil (And.intro @fillK_some (And.intro @fillV_int (And.intro @fillV_bool (And.intro @fillV_agg (And.intro @setAll_nil (And.intro @setAll_cons (And.intro @Ret_cops (And.intro @Ret_exit_code (And.intro @Ret_exit_loop (And.intro @Ret_exit_other (And.intro @Ret_exit_here (And.intro @Ret_skip (And.intro @Ret_block (And.intro @Ret_inBlock (And.intro @Ret_cond (And.intro @Ret_is (And.intro @Ret_in (And.intro @false_and (And.intro @and_false (And.intro @Ret_ops_nil (And.intro @Ret_ret (And.intro @decide_true (And.intro @gK_none (And.intro @gK_some (And.intro @on_mov (And.intro @on_pick (And.intro @on_bin (And.intro @on_eqv (And.intro @on_un (And.intro @on_conv (And.intro @on_alloc (And.intro @on_box (And.intro @on_build (And.intro @on_buildSlice (And.intro @on_load1 (And.intro @on_loadN (And.intro @on_store (And.intro @on_nilCheck (And.intro @on_fieldAddr (And.intro @on_field1 (And.intro @on_fieldN (And.intro @on_idxAddrA (And.intro @on_idxAddrS (And.intro @on_idxA (And.intro @on_idxStr (And.intro @on_sliceS (And.intro @on_sliceA (And.intro @on_sliceStr (And.intro @on_lenStr (And.intro @on_lenSlice (And.intro @on_lenMap (And.intro @on_lenK (And.intro @on_append (And.intro @on_append0 (And.intro @on_appendL (And.intro @on_copy (And.intro @on_minmax (And.intro @on_makeSlice (And.intro @on_makeMap (And.intro @on_lookup (And.intro @on_mapUpdate (And.intro @on_delete (And.intro @on_makeFunc (And.intro @on_extract (And.intro @on_strId (And.intro @on_rowMark (And.intro @ob_mov (And.intro @ob_pick (And.intro @ob_bin (And.intro @ob_eqv (And.intro @ob_un (And.intro @ob_conv (And.intro @ob_alloc (And.intro @ob_box (And.intro @ob_build (And.intro @ob_buildSlice (And.intro @ob_load1 (And.intro @ob_loadN (And.intro @ob_store (And.intro @ob_nilCheck (And.intro @ob_fieldAddr (And.intro @ob_field1 (And.intro @ob_fieldN (And.intro @ob_idxAddrA (And.intro @ob_idxAddrS (And.intro @ob_idxA (And.intro @ob_idxStr (And.intro @ob_sliceS (And.intro @ob_sliceA (And.intro @ob_sliceStr (And.intro @ob_lenStr (And.intro @ob_lenSlice (And.intro @ob_lenMap (And.intro @ob_lenK (And.intro @ob_append (And.intro @ob_append0 (And.intro @ob_appendL (And.intro @ob_copy (And.intro @ob_minmax (And.intro @ob_makeSlice (And.intro @ob_makeMap (And.intro @ob_lookup (And.intro @ob_mapUpdate (And.intro @ob_delete (And.intro @ob_makeFunc (And.intro @ob_extract (And.intro @ob_strId (And.intro @ob_rowMark (And.intro @oK_call (And.intro @oK_callB (And.intro @calK_some (And.intro @pure_any (And.intro @pure_pure (And.intro @pure_mk (And.intro @lim_any (And.intro @lim_pure (And.intro @lim_mk (And.intro @CallT_inl (And.intro @CallT_inr (And.intro @Ret_retM (And.intro @marks_nil (And.intro @marks_code (And.intro @marks_loop (And.intro @marks_block (And.intro @marks_mark (And.intro @shut_nil (And.intro @shut_cons (And.intro @shutK_some (And.intro @Ret_round (And.intro @Ret_begin (And.intro @begK_loop (And.intro @endB_on (And.intro @endB_off (And.intro @Ret_retR_code (And.intro @Ret_retR_loop (And.intro @Ret_retR_block (And.intro @Ret_retR_round (And.intro @Ret_exitR_code (And.intro @Ret_exitR_loop (And.intro @Ret_exitR_other (And.intro @Ret_exitR_here (And.intro @Ret_exitR_round (And.intro @calL_some (And.intro @endK_0 (And.intro @endK_2 (And.intro @pendI_none (And.intro @pendI_some (And.intro @Ret_rangeF (And.intro @List.map_cons.{0,0} (And.intro @List.map_nil.{0,0} (And.intro @Option.map_none.{0,0} (And.intro @mask_nil (And.intro @mask_cons (And.intro @unmask_cons (And.intro @pad_one (And.intro @pad_zero (And.intro @pad_two (And.intro @pad_three (And.intro @Ret_drawn (And.intro @Nat.add_assoc (And.intro @unmask_nil (And.intro @unmask_mask (And.intro @ev_tmp (And.intro @ev_const (And.intro @ev_func (And.intro @upd_same (And.intro @upd_ne (And.intro @not_false_eq_true (And.intro @opK_some (And.intro @Option.map_some.{0,0} (And.intro @List.getD_cons_zero.{0} (And.intro @List.getD_cons_succ.{0} (And.intro @decide_false (And.intro @Bool.false_eq_true (And.intro @not_true_eq_false (And.intro @and_true (And.intro @true_and (And.intro @hget_new (And.intro @hget_new0 (And.intro @hget_old (And.intro @set_new (And.intro @set_new0 (And.intro @List.set_cons_zero.{0} (And.intro @List.set_cons_succ.{0} (And.intro @List.append_assoc.{0} (And.intro @List.cons_append.{0} (And.intro @List.nil_append.{0} (And.intro @storeAt_lit (And.intro @loadCell_lit (And.intro @loadCells_lit (And.intro @idxK_nat (And.intro @List.length_cons.{0} (And.intro @List.length_nil.{0} (And.intro @addr_add (And.intro @List.drop_zero.{0} (And.intro @List.drop_succ_cons.{0} (And.intro @List.take_succ_cons.{0} (And.intro @List.take_zero.{0} (And.intro @Nat.le_refl (And.intro @Nat.le_add_right (And.intro @Nat.zero_add (And.intro @Nat.add_zero (And.intro @result_fin (And.intro @resAll_nil (And.intro @resAll_cons (And.intro @consK_some (And.intro @finK_one (And.intro @finK_more (And.intro @finK_nil (And.intro @cells_agg (And.intro @cells_int (And.intro @cells_bool (And.intro @arr_list (And.intro @arr_size (And.intro @Option.some.injEq.{0} (And.intro @Prod.mk.injEq.{0,0} (And.intro @List.length_append.{0} (And.intro @List.getElem?_cons_zero.{0} (And.intro @List.getElem?_cons_succ.{0} (And.intro @Nat.lt_irrefl (And.intro @and_self (And.intro @int_lt_cast (And.intro @int_le_cast (And.intro @wantK_not (And.intro @condK_not (And.intro @Bool.not_true (And.intro @Bool.not_false (And.intro @Nat.le_add_right_of_le (And.intro @int_zero_lt (And.intro @wantK_undef (And.intro @keyOk_int (And.intro @keyOk_str (And.intro @findKey_nil (And.intro @findKey_int (And.intro @mapEntries_some (And.intro @mapEntries_none (And.intro @Int.cast_ofNat_Int (And.intro @idxK_zero (And.intro @Ret_nil (And.intro @cells_slice (And.intro @cells_ptr (And.intro @cells_str (And.intro @cells_map (And.intro @cells_func (And.intro @arr1 (And.intro @size1 (And.intro @fillV_slice (And.intro @fillV_ptr (And.intro @fillV_str (And.intro @fillV_map (And.intro @nat_not_neg (And.intro @setAll_full (And.intro @Option.isNone_none.{0} (And.intro @Option.isNone_some.{0} (And.intro @Int.toNat_natCast (And.intro @take_all (And.intro @setAll_skip (And.intro @pad_4 (And.intro @pad_5 (And.intro @pad_6 (And.intro @pad_7 (And.intro @pad_8 (And.intro @pad_9 (And.intro @pad_10 (And.intro @pad_11 (And.intro @pad_12 (And.intro @bytesOf_cons (And.intro @bytesOf_nil (And.intro @int_eq_cast (And.intro @on_b2sV (And.intro @ob_b2sV (And.intro @b2sV_some (@aSliceS_V))))))))))))))))))))))))))))))))))))))))))))))))))))))))))))))))))))))))))))))))))))))))))))))))))))))))))))))))))))))))))))))))))))))))))))))))))))))))))))))))))))))))))))))))))))))))))))))))))))))))))))))))))))))))))))))))))))))))))))))))))))))))))))))))))))))))))))))))))))))))))))
end Go.AM
set_option linter.unusedVariables false
set_option linter.unusedSimpArgs false
namespace Go.AM
section
variable {G G' K : Heap} {R : Nat} {b : Blk}
/-- G', but for the block R, is G. -/
structure Mut (G G' : Heap) (R : Nat) : Prop where
  len : G'.length = G.length
  other : ∀ j, j ≠ R → hget G' j = hget G j
theorem Mut.ext {H : Heap} (h : Mut G G' R) (hE : Ext H G) (hR : H.length ≤ R) : Ext H G' := by
  obtain ⟨Y, rfl⟩ := hE
  refine ⟨G'.drop H.length, ?_⟩
  apply List.ext_getElem
  · have := h.len; simp at this ⊢; omega
  intro i h1 h2
  have hl := h.len
  simp at hl
  by_cases hi : i < H.length
  · rw [List.getElem_append_left hi]
    have := h.other i (by omega)
    unfold hget at this
    rw [List.getD_eq_getElem?_getD, List.getD_eq_getElem?_getD, List.getElem?_eq_getElem h1, List.getElem?_eq_getElem (by simp; omega)] at this
    simp only [Option.getD_some] at this
    rw [this, List.getElem_append_left hi]
  · rw [List.getElem_append_right (by omega), List.getElem_drop]
    congr 1
    omega
theorem Mut.cells (h : Mut G G' R) {j : Nat} {ro : Bool} {c : List Value} (hj : hget G j = .cells ro c) (hne : j ≠ R) : hget G' j = .cells ro c := by rw [h.other j hne]; exact hj
theorem Mut.alive (h : Mut G G' R) {j : Nat} {B : Blk} (hj : hget G j = B) (hne : j ≠ R) : hget G' j = B := by rw [h.other j hne]; exact hj
/-- A slice that lies apart. -/
theorem Mut.sl {α : Type} {enc : α → List Value} {e : Nat} {p : Option Addr} {l : List α} (h : Mut G G' R) (hs : Sl G enc e p l) (hp : ∀ a, p = some a → l ≠ [] → a.block ≠ R) : Sl G' enc e p l := by
  cases p with
  | none => exact hs
  | some a =>
    refine ⟨hs.1, fun hn => ?_⟩
    obtain ⟨ro, c, h2, h3⟩ := hs.2 hn
    exact ⟨ro, c, h.cells h2 (hp a rfl hn), h3⟩
/-- How places of a heap that is as long are looked up. -/
theorem len_rules (h : G'.length = G.length) : (G'.length = G.length) ∧ (∀ (X : Heap) (j : Nat), hget (G' ++ X) (G.length + j) = X.getD j .dead) ∧ (∀ X : Heap, hget (G' ++ X) G.length = X.getD 0 .dead) ∧
    (∀ (X : Heap) (j : Nat) b, (G' ++ X).set (G.length + j) b = G' ++ X.set j b) ∧ (∀ (X : Heap) b, (G' ++ X).set G.length b = G' ++ X.set 0 b) := by
  refine ⟨h, fun X j => by rw [← h]; exact hget_new, fun X => by rw [← h]; exact hget_new0, fun X j b => ?_, fun X b => ?_⟩
  · rw [← h, List.set_append_right _ _ (by omega)]; simp
  · rw [← h, List.set_append_right _ _ (by omega)]; simp
theorem mut_set (hR : R < G.length) (b : Blk) : ∃ G', (∀ X : Heap, (G ++ X).set R b = G' ++ X) ∧ hget G' R = b ∧ Mut G G' R :=
  ⟨G.set R b, fun X => List.set_append_left _ _ hR, hget_set_eq hR, by simp, fun j hj => hget_set_ne hj⟩
end

/-- A slice of one's own, that grows. -/
def Own {α : Type} (lim : Nat) (G : Heap) (enc : α → List Value) (e : Nat) (p : Option Addr) (cap : Nat) (l : List α) : Prop :=
  (l = [] ∧ p = none ∧ cap = 0) ∨ ∃ R, p = some ⟨R, 0, none⟩ ∧ cap = loose e ∧ hget G R = .cells false (l.flatMap enc) ∧ lim ≤ R
section
variable {α : Type} {lim e bytes cap : Nat} {G : Heap} {enc : α → List Value} {p : Option Addr} {l m : List α}
theorem Own.nil : Own lim G enc e none 0 [] := .inl ⟨rfl, rfl, rfl⟩
theorem Own.app (h : Own lim G enc e p cap l) (X : Heap) : Own lim (G ++ X) enc e p cap l := by
  rcases h with h | ⟨R, h1, h2, h3, h4⟩
  · exact .inl h
  · exact .inr ⟨R, h1, h2, by rw [hget_old (hget_alive h3)]; exact h3, h4⟩
theorem Own.mut {G' : Heap} {R : Nat} (h : Own lim G enc e p cap l) (hm : Mut G G' R) (hp : ∀ a, p = some a → a.block ≠ R) : Own lim G' enc e p cap l := by
  rcases h with h | ⟨R', h1, h2, h3, h4⟩
  · exact .inl h
  · exact .inr ⟨R', h1, h2, hm.cells h3 (hp _ h1), h4⟩
theorem Own.new {R : Nat} (hR : hget G R = .cells false (l.flatMap enc)) (hl : lim ≤ R) : Own lim G enc e (some ⟨R, 0, none⟩) (loose e) l := .inr ⟨R, rfl, rfl, hR, hl⟩
theorem Own.sl (h : Own lim G enc e p cap l) (he : ∀ x, (enc x).length = e) : Sl G enc e p l := by
  rcases h with ⟨h1, h2, _⟩ | ⟨R, h1, h2, h3, h4⟩
  · subst h1 h2; rfl
  · subst h1; exact Sl.lit he (by rw [h3]; rfl) (by rw [h3]; rfl)
theorem Own.le (h : Own lim G enc e p cap l) {lim' : Nat} (hl : lim' ≤ lim) : Own lim' G enc e p cap l := by
  rcases h with h | ⟨R, h1, h2, h3, h4⟩
  · exact .inl h
  · exact .inr ⟨R, h1, h2, h3, by omega⟩
theorem Own.block (h : Own lim G enc e p cap l) {a : Addr} (ha : p = some a) : lim ≤ a.block ∧ a.block < G.length := by
  rcases h with ⟨h1, h2, h3⟩ | ⟨R, h1, h2, h3, h4⟩
  · rw [h2] at ha; cases ha
  · rw [h1] at ha; cases ha; exact ⟨h4, hget_alive h3⟩
theorem Sl.cells (hs : Sl G enc e p m) (hm : m ≠ []) : ∃ a, p = some a ∧ AM.loadCells G a (m.length * e) = some (m.flatMap enc) := by
  cases p with
  | none => exact absurd hs hm
  | some a =>
    obtain ⟨k1, k2⟩ := hs
    obtain ⟨ro, cs, k3, k4, k5⟩ := k2 hm
    refine ⟨a, rfl, ?_⟩
    obtain ⟨ab, ao, as'⟩ := a
    simp only [loadCells_lit]
    simp only at k3 k4 k5
    simp only [k3]
    rw [if_pos k4, k5]
/-- More elements behind: where they lie then, and that all else is as it was. -/
theorem Own.push {lim' : Nat} (h : Own lim G enc e p cap l) (hll : lim' ≤ lim) (he : ∀ x, (enc x).length = e) (he0 : e ≠ 0) (m : List α) (hm : m ≠ []) (hb : (l.length + m.length) * bytes ≤ maxBytes) (hn : l.length + m.length < 2 ^ 61) :
    ∃ (G' : Heap) (R : Nat), (p = none → R = G.length) ∧ (∀ a, p = some a → R = a.block) ∧ Mut G G' R ∧ (∀ j, j ≠ R → hget G' j = hget G j) ∧ (∀ H0 : Heap, Ext H0 G → H0.length ≤ lim → Ext H0 G') ∧
      (∀ (X : Heap) (px : Option Addr) (k : Nat), Sl (G ++ X) enc e px m → aAppend lim' none e bytes false (.slice p l.length cap) (.slice px m.length k) (G ++ X) = some (.slice (some ⟨G.length + X.length, 0, none⟩) (l.length + m.length) (loose e), G' ++ (X ++ [.cells false ((l ++ m).flatMap enc)]))) := by
  have hm0 : ¬ m.length = 0 := by intro q; exact hm (List.length_eq_zero_iff.1 q)
  rcases h with ⟨h1, h2, h3⟩ | ⟨R, h1, h2, h3, h4⟩
  · subst h1 h2 h3
    refine ⟨G, G.length, fun _ => rfl, fun a h => (by cases h), ⟨rfl, fun j _ => rfl⟩, fun j _ => rfl, fun H0 h _ => h, fun X px k hx => ?_⟩
    obtain ⟨a, rfl, hl⟩ := hx.cells hm
    simp only [List.length_nil, Nat.zero_add] at hb hn
    simp only [aAppend, firstCells, lenOf, hl, hm0, if_false, Bool.false_eq_true, List.length_nil, Nat.zero_add]
    rw [if_neg (by omega)]
    simp [place]
  · subst h1 h2
    have hRl := hget_alive h3
    refine ⟨G.set R .dead, R, fun h => (by cases h), fun a h => (by cases h; rfl), ⟨by simp, fun j hj => hget_set_ne hj⟩, fun j hj => hget_set_ne hj, fun H0 h hl => Mut.ext (R := R) ⟨by simp, fun j hj => hget_set_ne hj⟩ h (by omega), fun X px k hx => ?_⟩
    obtain ⟨a, rfl, hl⟩ := hx.cells hm
    have hR' : hget (G ++ X) R = .cells false (l.flatMap enc) := by rw [hget_old hRl]; exact h3
    have hold : AM.loadCells (G ++ X) ⟨R, 0, none⟩ (l.length * e) = some (l.flatMap enc) := by
      simp only [loadCells_lit, hR', Nat.zero_add, flat_len he, Nat.le_refl, if_true, List.drop_zero]
      rw [List.take_of_length_le (by rw [flat_len he]; exact Nat.le_refl _)]
    simp only [aAppend, firstCells, lenOf, hl, hold, hR', hm0, if_false, Bool.false_eq_true, if_true]
    rw [if_neg (by unfold loose; omega)]
    simp [show lim' ≤ R by omega, place, List.set_append_left _ _ hRl, List.append_assoc]
/-- One element behind. -/
theorem Own.push1 {lim' : Nat} (h : Own lim G enc e p cap l) (hll : lim' ≤ lim) (he : ∀ x, (enc x).length = e) (he0 : e ≠ 0) (x : α) (hb : (l.length + 1) * bytes ≤ maxBytes) (hn : l.length + 1 < 2 ^ 61) :
    ∃ (G' : Heap) (R : Nat), (p = none → R = G.length) ∧ (∀ a, p = some a → R = a.block) ∧ Mut G G' R ∧ (∀ H0 : Heap, Ext H0 G → H0.length ≤ lim → Ext H0 G') ∧
      (∀ (X : Heap) (b k : Nat), hget (G ++ X) b = .cells false (enc x) → aAppend lim' none e bytes false (.slice p l.length cap) (.slice (some ⟨b, 0, none⟩) 1 k) (G ++ X) = some (.slice (some ⟨G.length + X.length, 0, none⟩) (l.length + 1) (loose e), G' ++ (X ++ [.cells false ((l ++ [x]).flatMap enc)]))) := by
  obtain ⟨G', R, h1, h2, h3, _, h4, h5⟩ := h.push hll he he0 [x] (by simp) (by simpa using hb) (by simpa using hn)
  refine ⟨G', R, h1, h2, h3, h4, fun X b k hx => ?_⟩
  exact h5 X (some ⟨b, 0, none⟩) k (Sl.lit he (by rw [hx]; rfl) (by rw [hx]; simp [cellsOf]))
/-- Nothing behind. -/
theorem append_none {lim e bytes n cap c : Nat} {dest : Option Nat} {p px : Option Addr} {H : Heap} (he0 : e ≠ 0) (hp : n = 0 ∨ ∃ a, p = some a) (hb : n * bytes ≤ maxBytes) (hn : n < 2 ^ 62) (hc : n ≤ cap) (hx : px = none ∨ ∃ a, px = some a) : aAppend lim dest e bytes false (.slice p n cap) (.slice px 0 c) H = some (.slice p n cap, H) := by
  rcases hx with rfl | ⟨a, rfl⟩
  · simp only [aAppend, firstCells, lenOf, Bool.false_eq_true, ne_eq, not_true_eq_false, or_self, if_false, Nat.add_zero]
    rw [if_neg (by omega)]; rfl
  · simp only [aAppend, firstCells, lenOf, Bool.false_eq_true, if_false, if_true, Nat.add_zero]
    rw [if_neg (by omega)]
theorem bound_nat {k m : Nat} {kk : IntKind} (h : k ≤ m) : bound (.int kk (k : Int)) m = some k := by
  simp only [bound]
  rw [if_pos ⟨by omega, by omega⟩]; simp
/-- The bounds of a slice expression, by their values. -/
def boundsV (len cap : Nat) (lo hi mx : Option Value) : Option (Nat × Nat × Nat) := bounds (fun o => match o with | .const v => v | _ => undef) len cap (lo.map .const) (hi.map .const) (mx.map .const)
theorem bounds_V {ρ : Operand → Value} {len cap : Nat} {lo hi mx : Option Operand} : bounds ρ len cap lo hi mx = boundsV len cap (lo.map ρ) (hi.map ρ) (mx.map ρ) := by
  unfold boundsV
  cases lo <;> cases hi <;> cases mx <;> rfl
theorem bound_int {n : Int} {m : Nat} {kk : IntKind} (h0 : 0 ≤ n) (h : n ≤ (m : Int)) : bound (.int kk n) m = some n.toNat := by
  simp only [bound]; rw [if_pos ⟨h0, h⟩]
section
variable {len : Nat} {k1 k2 k3 : IntKind} {l h x : Int}
theorem bv_000 : boundsV len cap none none none = some (0, len, cap) := rfl
theorem bv_010 (h0 : 0 ≤ h) (h1 : h ≤ (cap : Int)) : boundsV len cap none (some (.int k1 h)) none = some (0, h.toNat, cap) := by
  delta boundsV bounds; simp only [Option.map_some, Option.map_none, bound_int h0 h1]
theorem bv_100 (l0 : 0 ≤ l) (l1 : l ≤ (len : Int)) : boundsV len cap (some (.int k1 l)) none none = some (l.toNat, len, cap) := by
  delta boundsV bounds; simp only [Option.map_some, Option.map_none, bound_int l0 l1]
theorem bv_110 (l0 : 0 ≤ l) (l1 : l ≤ h) (h1 : h ≤ (cap : Int)) : boundsV len cap (some (.int k1 l)) (some (.int k2 h)) none = some (l.toNat, h.toNat, cap) := by
  delta boundsV bounds; simp only [Option.map_some, Option.map_none, bound_int (show 0 ≤ h by omega) h1, bound_int (m := h.toNat) l0 (by omega)]
theorem bv_011 (h0 : 0 ≤ h) (h1 : h ≤ x) (x1 : x ≤ (cap : Int)) : boundsV len cap none (some (.int k1 h)) (some (.int k2 x)) = some (0, h.toNat, x.toNat) := by
  delta boundsV bounds; simp only [Option.map_some, Option.map_none, bound_int (show 0 ≤ x by omega) x1, bound_int (m := x.toNat) h0 (by omega)]
theorem bv_111 (l0 : 0 ≤ l) (l1 : l ≤ h) (h1 : h ≤ x) (x1 : x ≤ (cap : Int)) : boundsV len cap (some (.int k3 l)) (some (.int k1 h)) (some (.int k2 x)) = some (l.toNat, h.toNat, x.toNat) := by
  delta boundsV bounds; simp only [Option.map_some, Option.map_none, bound_int (show 0 ≤ x by omega) x1, bound_int (m := x.toNat) (show 0 ≤ h by omega) (by omega), bound_int (m := h.toNat) l0 (by omega)]
end
theorem nat_nn {n : Nat} : (0 : Int) ≤ (n : Int) := by omega
/-- What is cut out of a slice, and put behind its beginning. -/
theorem append_cut {lim n o m R c : Nat} {dest : Option Nat} {H : Heap} {cs : List Value} (hR : hget H R = .cells false cs) (hl : lim ≤ R) (he0 : e ≠ 0) (hm : m ≠ 0) (h1 : n * e ≤ cs.length) (h2 : o + m * e ≤ cs.length) (hb : (n + m) * bytes ≤ maxBytes) (hn : n + m < 2 ^ 61) :
    aAppend lim dest e bytes false (.slice (some ⟨R, 0, none⟩) n (loose e)) (.slice (some ⟨R, o, none⟩) m c) H = some (.slice (some ⟨(place dest (.cells false (cs.take (n * e) ++ (cs.drop o).take (m * e))) (H.set R .dead)).1, 0, none⟩) (n + m) (loose e), (place dest (.cells false (cs.take (n * e) ++ (cs.drop o).take (m * e))) (H.set R .dead)).2) := by
  have hx : AM.loadCells H ⟨R, o, none⟩ (m * e) = some ((cs.drop o).take (m * e)) := by
    simp only [loadCells_lit, hR]; rw [if_pos h2]
  have hy : AM.loadCells H ⟨R, 0, none⟩ (n * e) = some (cs.take (n * e)) := by
    simp only [loadCells_lit, hR, Nat.zero_add, List.drop_zero]; rw [if_pos h1]
  simp only [aAppend, firstCells, lenOf, hx, hy, hR, hm, hl, if_false, if_true, Bool.false_eq_true]
  rw [if_neg (by unfold loose; omega)]
end
/-- The parts of a sequence. -/
def hdC : ACode → ACode
  | .seq a _ => a
  | c => c
def tlC : ACode → ACode
  | .seq _ b => b
  | _ => .skip
end Go.AM
set_option linter.unusedVariables false
set_option linter.unusedSimpArgs false
namespace Go.AM
/-- H' is H, but for the blocks A, and what is new. -/
structure Chg (A : List Nat) (H H' : Heap) : Prop where
  len : H.length ≤ H'.length
  other : ∀ j, j < H.length → j ∉ A → hget H' j = hget H j
section
variable {A B : List Nat} {H H' K : Heap}
theorem Chg.refl : Chg A H H := ⟨Nat.le_refl _, fun _ _ _ => rfl⟩
theorem Chg.trans (h : Chg A H H') (k : Chg A H' K) : Chg A H K := ⟨Nat.le_trans h.len k.len, fun j hj hA => (k.other j (by have := h.len; omega) hA).trans (h.other j hj hA)⟩
theorem Chg.trans' (h : Chg A H H') (k : Chg B H' K) (hB : ∀ j, j ∈ B → j < H.length → j ∈ A) : Chg A H K := ⟨Nat.le_trans h.len k.len, fun j hj hA => (k.other j (by have := h.len; omega) fun hb => hA (hB j hb hj)).trans (h.other j hj hA)⟩
theorem Chg.mono (h : Chg A H H') (hs : ∀ j, j < H.length → j ∈ A → j ∈ B) : Chg B H H' := ⟨h.len, fun j hj hB => h.other j hj fun hA => hB (hs j hj hA)⟩
theorem Chg.app (h : Chg A H H') {X : Heap} : Chg A H (H' ++ X) := ⟨by have := h.len; simp; omega, fun j hj hA => by rw [hget_old (by have := h.len; omega)]; exact h.other j hj hA⟩
theorem Chg.pre (h : Chg A (H ++ K) H') : Chg A H H' := ⟨by have := h.len; simp at this; omega, fun j hj hA => by rw [h.other j (by simp; omega) hA, hget_old hj]⟩
theorem Chg.mut {R : Nat} (h : Chg A H H') (m : Mut H' K R) (hR : R ∈ A ∨ H.length ≤ R) : Chg A H K := ⟨by rw [m.len]; exact h.len, fun j hj hA => by
  rw [m.other j (by rintro rfl; rcases hR with h1 | h1; exact hA h1; omega)]; exact h.other j hj hA⟩
theorem Chg.set {R : Nat} {b : Blk} (h : Chg A H H') (hR : R ∈ A ∨ H.length ≤ R) : Chg A H (H'.set R b) := h.mut (R := R) ⟨by simp, fun j hj => hget_set_ne hj⟩ hR
theorem Chg.get (h : Chg A H H') {j : Nat} {b : Blk} (hj : hget H j = b) (hl : j < H.length) (hA : j ∉ A) : hget H' j = b := by rw [h.other j hl hA]; exact hj
theorem Chg.cells (h : Chg A H H') {j : Nat} {ro : Bool} {c : List Value} (hj : hget H j = .cells ro c) (hA : j ∉ A) : hget H' j = .cells ro c := h.get hj (hget_alive hj) hA
theorem Chg.sl {α : Type} {enc : α → List Value} {e : Nat} {p : Option Addr} {l : List α} (h : Chg A H H') (hs : Sl H enc e p l) (hp : ∀ a, p = some a → l ≠ [] → a.block ∉ A) : Sl H' enc e p l := by
  cases p with
  | none => exact hs
  | some a =>
    refine ⟨hs.1, fun hn => ?_⟩
    obtain ⟨ro, c, h2, h3⟩ := hs.2 hn
    exact ⟨ro, c, h.cells h2 (hp a rfl hn), h3⟩
theorem Ext.chg (h : Ext H H') : Chg A H H' := by obtain ⟨X, rfl⟩ := h; exact Chg.refl.app
theorem Chg.ext (h : Chg [] H H') : Ext H H' := by
  refine ⟨H'.drop H.length, ?_⟩
  apply List.ext_getElem
  · have := h.len; simp; omega
  intro i h1 h2
  by_cases hi : i < H.length
  · rw [List.getElem_append_left hi]
    have := h.other i hi (by simp)
    unfold hget at this
    rw [List.getD_eq_getElem?_getD, List.getD_eq_getElem?_getD, List.getElem?_eq_getElem h1, List.getElem?_eq_getElem hi] at this
    exact this
  · rw [List.getElem_append_right (by omega), List.getElem_drop]
    congr 1
    omega
end
/-- A block of a slice with elements is there. -/
theorem Sl.lt {α : Type} {H : Heap} {enc : α → List Value} {e : Nat} {a : Addr} {l : List α} (h : Sl H enc e (some a) l) (hn : l ≠ []) : a.block < H.length := by
  obtain ⟨ro, c, h2, _⟩ := h.2 hn
  exact hget_alive h2
theorem Sl.some {α : Type} {H : Heap} {enc : α → List Value} {e : Nat} {p : Option Addr} {l : List α} (h : Sl H enc e p l) (hn : l ≠ []) : ∃ a, p = some a := by
  cases p with
  | none => exact absurd h hn
  | some a => exact ⟨a, rfl⟩
section
variable {α : Type} [Inhabited α] {H : Heap} {enc : α → List Value} {e : Nat} {p : Option Addr} {l : List α}
/-- Some cells of an element. -/
theorem Sl.loadSub (h : Sl H enc e p l) (he : ∀ x, (enc x).length = e) {i j n : Nat} (hi : i < l.length) (hj : j + n ≤ e) : AM.loadCells H ((elt p e i).add j) n = Option.some (((enc (gt l i)).drop j).take n) := by
  have h0 := h.loadCells he hi
  cases p with
  | none => simp only [Sl] at h; subst h; simp at hi
  | some a =>
    obtain ⟨b, o, s⟩ := a
    obtain ⟨ro, c, h2, h4, h3⟩ := h.2 (by rintro rfl; simp at hi)
    have h1 := h.1
    simp only at h1 h2 h3 h4; subst h1
    have hie : i * e + e ≤ l.length * e := by
      have := Nat.mul_le_mul_right e (Nat.succ_le_of_lt hi)
      rw [Nat.succ_mul] at this; exact this
    simp only [elt, addrOf, Option.getD_some, addr_add, AM.loadCells, h2] at h0 ⊢
    split at h0
    · simp only [Option.some.injEq] at h0
      rw [if_pos (by omega), ← h0, List.drop_take, List.take_take, List.drop_drop, Nat.min_eq_left (by omega), Nat.add_assoc]
    · cases h0
omit [Inhabited α] in
/-- An element is set. -/
theorem store_elt {lim S : Nat} (he : ∀ x, (enc x).length = e) (hp : p = Option.some ⟨S, 0, none⟩) (hS : hget H S = .cells false (l.flatMap enc)) (hl : lim ≤ S) {i : Nat} (hi : i < l.length) (y : α) : AM.storeAt lim H (elt p e i) (enc y) = Option.some (H.set S (.cells false ((l.set i y).flatMap enc))) := by
  subst hp
  have h1 : i * e + e ≤ l.length * e := by
    have := Nat.mul_le_mul_right e (Nat.succ_le_of_lt hi)
    rw [Nat.succ_mul] at this; exact this
  simp only [elt, addrOf, Option.getD_some, addr_add, storeAt_lit, hS, Nat.zero_add]
  rw [if_pos ⟨hl, by rw [he, flat_len he]; exact h1⟩, flat_set he y _ _ hi]
end
/-- An element is set, whatever lies behind. -/
theorem store_mut {α : Type} {G : Heap} {enc : α → List Value} {e : Nat} {p : Option Addr} {l : List α} {lim S : Nat} (he : ∀ x, (enc x).length = e) (hp : p = some ⟨S, 0, none⟩) (hS : hget G S = .cells false (l.flatMap enc)) (hl : lim ≤ S) {i : Nat} (hi : i < l.length) (y : α) :
    ∃ G', (∀ X, AM.storeAt lim (G ++ X) (elt p e i) (enc y) = some (G' ++ X)) ∧ hget G' S = .cells false ((l.set i y).flatMap enc) ∧ Mut G G' S := by
  obtain ⟨G', h1, h2, h3⟩ := mut_set (hget_alive hS) (.cells false ((l.set i y).flatMap enc))
  exact ⟨G', fun X => by rw [store_elt he hp (by rw [hget_old (hget_alive hS)]; exact hS) hl hi, h1], h2, h3⟩
/-- One element behind: what is there then. -/
theorem Own.step {α : Type} {lim lim' e bytes cap : Nat} {G : Heap} {enc : α → List Value} {p : Option Addr} {l : List α} (h : Own lim G enc e p cap l) (hll : lim' ≤ lim) (he : ∀ x, (enc x).length = e) (he0 : e ≠ 0) (x : α) (hb : (l.length + 1) * bytes ≤ maxBytes) (hn : l.length + 1 < 2 ^ 61) (hlG : lim ≤ G.length)
    (X : Heap) (b k : Nat) (hx : hget (G ++ X) b = .cells false (enc x)) :
    ∃ G2, aAppend lim' none e bytes false (.slice p l.length cap) (.slice (some ⟨b, 0, none⟩) 1 k) (G ++ X) = some (.slice (some ⟨G.length + X.length, 0, none⟩) (l.length + 1) (loose e), G2 ++ []) ∧
      Own lim (G2 ++ []) enc e (some ⟨G.length + X.length, 0, none⟩) (loose e) (l ++ [x]) ∧ (∀ A H0, H0.length ≤ lim → Chg A H0 G → Chg A H0 (G2 ++ [])) ∧ (∀ j, j < G.length → (∀ a, p = some a → j ≠ a.block) → hget (G2 ++ []) j = hget G j) ∧ G2.length = G.length + X.length + 1 ∧
      (∀ j, j < X.length → hget (G2 ++ []) (G.length + j) = X.getD j .dead) := by
  obtain ⟨G', R, hR1, hR2, hm, _, hp⟩ := h.push1 (lim' := lim') (bytes := bytes) hll he he0 x hb hn
  have hRl : lim ≤ R := by
    rcases Option.eq_none_or_eq_some p with h1 | ⟨a, h1⟩
    · rw [hR1 h1]; exact hlG
    · rw [hR2 a h1]; exact (h.block h1).1
  refine ⟨G' ++ (X ++ [.cells false ((l ++ [x]).flatMap enc)]), by rw [List.append_nil]; exact hp X b k hx, ?_, fun A H0 h1 h2 => ?_, fun j hj hp => ?_, by simp [hm.len]; omega, fun j hj => ?_⟩
  · rw [List.append_nil]
    refine Own.new ?_ (by omega)
    rw [← List.append_assoc, ← hm.len, ← List.length_append]
    exact hget_new0
  · rw [List.append_nil]
    exact (h2.mut hm (.inr (by omega))).app
  · rw [List.append_nil, hget_old (by rw [hm.len]; exact hj)]
    refine hm.other j ?_
    rcases Option.eq_none_or_eq_some p with h1 | ⟨a, h1⟩
    · rw [hR1 h1]; omega
    · rw [hR2 a h1]; exact hp a h1
  · rw [List.append_nil, ← hm.len, hget_new, List.getD_eq_getElem?_getD, List.getElem?_append_left hj, List.getD_eq_getElem?_getD]
/-- What an append behind a new empty slice makes. -/
theorem append_new {α : Type} {lim b d e bytes c : Nat} {H : Heap} {enc : α → List Value} {p : Option Addr} {l : List α} (hb : hget H b = .cells false []) (hs : Sl H enc e p l) (h1 : e ≠ 0) (h2 : l.length * bytes ≤ maxBytes) (h3 : l.length < 2 ^ 62) (hn : l ≠ []) :
    aAppend lim (some d) e bytes false (.slice (some ⟨b, 0, none⟩) 0 0) (.slice p l.length c) H = some (.slice (some ⟨d, 0, none⟩) l.length (loose e), H.set d (.cells false (l.flatMap enc))) := by
  obtain ⟨a, rfl⟩ := hs.some hn
  have h0 : l.length ≠ 0 := fun h => hn (List.length_eq_zero_iff.1 h)
  obtain ⟨k1, k2⟩ := hs
  obtain ⟨ro, cs, k3, k4, k5⟩ := k2 hn
  have hl : AM.loadCells H a (l.length * e) = some (l.flatMap enc) := by
    obtain ⟨ab, ao, as'⟩ := a
    simp only [loadCells_lit]
    simp only at k3 k4 k5
    simp only [k3]
    rw [if_pos k4, k5]
  have h0' : AM.loadCells H ⟨b, 0, none⟩ (0 * e) = some [] := by simp [loadCells_lit, hb]
  simp only [aAppend, firstCells, lenOf, hl, h0', h0, Nat.zero_add, Nat.not_lt_zero, or_false, h1, false_or, Bool.false_eq_true, if_false]
  rw [if_neg (by omega), if_neg (by unfold loose; omega), if_pos (by decide), if_neg (by omega)]
  simp [place]
theorem append_newN {α : Type} {lim b e bytes c : Nat} {H : Heap} {enc : α → List Value} {p : Option Addr} {l : List α} (hb : hget H b = .cells false []) (hs : Sl H enc e p l) (h1 : e ≠ 0) (h2 : l.length * bytes ≤ maxBytes) (h3 : l.length < 2 ^ 62) (hn : l ≠ []) :
    aAppend lim none e bytes false (.slice (some ⟨b, 0, none⟩) 0 0) (.slice p l.length c) H = some (.slice (some ⟨H.length, 0, none⟩) l.length (loose e), H ++ [.cells false (l.flatMap enc)]) := by
  obtain ⟨a, rfl⟩ := hs.some hn
  have h0 : l.length ≠ 0 := fun h => hn (List.length_eq_zero_iff.1 h)
  obtain ⟨k1, k2⟩ := hs
  obtain ⟨ro, cs, k3, k4, k5⟩ := k2 hn
  have hl : AM.loadCells H a (l.length * e) = some (l.flatMap enc) := by
    obtain ⟨ab, ao, as'⟩ := a
    simp only [loadCells_lit]
    simp only at k3 k4 k5
    simp only [k3]
    rw [if_pos k4, k5]
  have h0' : AM.loadCells H ⟨b, 0, none⟩ (0 * e) = some [] := by simp [loadCells_lit, hb]
  simp only [aAppend, firstCells, lenOf, hl, h0', h0, Nat.zero_add, Nat.not_lt_zero, or_false, h1, false_or, Bool.false_eq_true, if_false]
  rw [if_neg (by omega), if_neg (by unfold loose; omega), if_pos (by decide), if_neg (by omega)]
  simp [place]
theorem append_new0 {lim b c e bytes : Nat} {dest : Option Nat} {H : Heap} {p : Option Addr} (h1 : e ≠ 0) : aAppend lim dest e bytes false (.slice (some ⟨b, 0, none⟩) 0 0) (.slice p 0 c) H = some (.slice (some ⟨b, 0, none⟩) 0 0, H) := by
  have : firstCells H e false (.slice p 0 c) = some [] := by cases p <;> simp [firstCells]
  simp [aAppend, this, lenOf, h1]
/-- The model's booleans. -/
theorem cellsEq_dec : ∀ (k : KK) (n : Nat) (a b : List Value), a.length = n → b.length = n → (∀ x ∈ a, ∀ y ∈ b, ∃ t, cellEq k x y = some t ∧ (t = true ↔ x = y)) → ∃ t, cellsEq (List.replicate n k) a b = some t ∧ (t = true ↔ a = b)
  | k, 0, a, b, ha, hb, _ => by
    have := List.length_eq_zero_iff.1 ha; have := List.length_eq_zero_iff.1 hb
    subst_vars
    exact ⟨true, rfl, by simp⟩
  | k, n + 1, a, b, ha, hb, h => by
    match a, b, ha, hb with
    | x :: a, y :: b, ha, hb =>
      obtain ⟨t, h1, h2⟩ := h x (by simp) y (by simp)
      obtain ⟨u, h3, h4⟩ := cellsEq_dec k n a b (by simpa using ha) (by simpa using hb) fun x hx y hy => h x (by simp [hx]) y (by simp [hy])
      refine ⟨t && u, ?_, ?_⟩
      · rw [List.replicate_succ]
        simp only [cellsEq, h1, h3]
      · rw [Bool.and_eq_true, h2, h4]; simp
theorem gt_ext {α : Type} [Inhabited α] {a b : List α} (hl : a.length = b.length) (h : ∀ i, i < a.length → gt a i = gt b i) : a = b := by
  apply List.ext_getElem hl
  intro i h1 h2
  have := h i h1
  rwa [gt_lt h1, gt_lt h2] at this
theorem take_snoc {α : Type} [Inhabited α] {l : List α} {i : Nat} (h : i < l.length) : l.take (i + 1) = l.take i ++ [gt l i] := by
  rw [List.take_succ_eq_append_getElem h, gt_lt h]
theorem zeros1 {z : Value} {n : Nat} : ((List.range (n * 1)).map fun j => [z].getD (j % 1) undef) = List.replicate n z := by
  apply List.ext_getElem (by simp)
  intro i h1 h2
  simp [Nat.mod_one]
theorem setAll_mid : ∀ (vs a b c : List Value), vs.length = b.length → setAll (a ++ b ++ c) a.length vs = a ++ vs ++ c := by
  intro vs
  induction vs with
  | nil => intro a b c h; simp at h; have : b = [] := List.length_eq_zero_iff.1 h.symm; subst this; rfl
  | cons v vs ih =>
    intro a b c h
    match b, h with
    | x :: b, h =>
      rw [setAll_cons]
      have e1 : (a ++ x :: b ++ c).set a.length v = (a ++ [v]) ++ b ++ c := by simp
      rw [e1]
      have := ih (a ++ [v]) b c (by simpa using h)
      rw [List.length_append] at this
      simp only [List.length_cons, List.length_nil, Nat.zero_add] at this
      rw [this]; simp
/-- Elements behind, for which there is room. -/
theorem append_roomN {α : Type} {lim R e bytes cap k : Nat} {H : Heap} {enc : α → List Value} {p : Option Addr} {old l : List α} {rest : List Value} (he : ∀ x, (enc x).length = e) (he0 : e ≠ 0) (hs : Sl H enc e p l) (hR : hget H R = .cells false (old.flatMap enc ++ rest)) (hl : lim ≤ R)
    (hc : old.length + l.length ≤ cap) (hr : rest.length = (cap - old.length) * e) (hcap : cap < 2 ^ 61) (hb : (old.length + l.length) * bytes ≤ maxBytes) :
    aAppend lim none e bytes false (.slice (some ⟨R, 0, none⟩) old.length cap) (.slice p l.length k) H = some (.slice (some ⟨R, 0, none⟩) (old.length + l.length) cap, H.set R (.cells false ((old ++ l).flatMap enc ++ rest.drop (l.length * e)))) := by
  have hRl := hget_alive hR
  by_cases hn : l = []
  · subst hn
    have hx : firstCells H e false (.slice p 0 k) = some [] := by cases p <;> simp [firstCells]
    have hset : H.set R (.cells false ((old ++ []).flatMap enc ++ rest.drop (0 * e))) = H := by
      rw [List.append_nil, Nat.zero_mul, List.drop_zero, ← hR]
      apply List.ext_getElem (by simp)
      intro i h1 h2
      rw [List.getElem_set]
      split
      · rename_i h; subst h
        have := hget_lt h2
        rw [List.getElem?_eq_getElem h2] at this
        exact (Option.some.inj this).symm
      · rfl
    simp only [List.length_nil, Nat.add_zero] at hb hc ⊢
    rw [hset]
    simp only [aAppend, hx, lenOf, Nat.add_zero, if_true]
    rw [if_neg (by omega)]
  · obtain ⟨a, rfl, hx⟩ := hs.cells hn
    have hl0 : l.length ≠ 0 := fun h => hn (List.length_eq_zero_iff.1 h)
    have hle : l.length * e ≤ rest.length := by rw [hr]; exact Nat.mul_le_mul_right e (by omega)
    have hy : AM.loadCells H ⟨R, 0, none⟩ (old.length * e) = some (old.flatMap enc) := by
      rw [loadCells_lit, hR]
      simp only [Nat.zero_add, List.drop_zero]
      rw [if_pos (by rw [List.length_append, flat_len he]; omega), ← flat_len he, List.take_left]
    have hst : AM.storeAt lim H (Addr.add ⟨R, 0, none⟩ (old.length * e)) (l.flatMap enc) = some (H.set R (.cells false ((old ++ l).flatMap enc ++ rest.drop (l.length * e)))) := by
      simp only [addr_add, storeAt_lit, hR, Nat.zero_add]
      rw [if_pos ⟨hl, by rw [List.length_append, flat_len he, flat_len he]; omega⟩]
      have := setAll_mid (l.flatMap enc) (old.flatMap enc) (rest.take (l.length * e)) (rest.drop (l.length * e)) (by rw [flat_len he, List.length_take]; omega)
      rw [List.append_assoc, List.take_append_drop, flat_len he] at this
      rw [this, List.flatMap_append]
    simp only [aAppend, firstCells, lenOf, hx, hy, hst, hl0, if_false, Bool.false_eq_true]
    rw [if_neg (by omega), if_neg (by unfold loose; omega), if_pos (by omega), if_pos (by omega)]
/-- Whatever is put behind a slice of one's own. -/
theorem Own.more {α : Type} {lim lim' e bytes cap : Nat} {G : Heap} {enc : α → List Value} {p : Option Addr} {l : List α} (h : Own lim G enc e p cap l) (hll : lim' ≤ lim) (he : ∀ x, (enc x).length = e) (he0 : e ≠ 0) (m : List α) (hb : (l.length + m.length) * bytes ≤ maxBytes) (hn : l.length + m.length < 2 ^ 61) (hlG : lim ≤ G.length)
    (X : Heap) {x : Value} {str : Bool} (h1 : firstCells (G ++ X) e str x = some (m.flatMap enc)) (h2 : lenOf x = some m.length) :
    ∃ G2 p' cap', aAppend lim' none e bytes str (.slice p l.length cap) x (G ++ X) = some (.slice p' (l.length + m.length) cap', G2 ++ []) ∧ Own lim (G2 ++ []) enc e p' cap' (l ++ m) ∧ (∀ A H0, H0.length ≤ lim → Chg A H0 G → Chg A H0 (G2 ++ [])) ∧
      (∀ j, j < G.length → (∀ a, p = some a → j ≠ a.block) → hget (G2 ++ []) j = hget G j) ∧ G.length ≤ G2.length := by
  by_cases hm : m = []
  · subst hm
    have hcap : l.length ≤ cap := by
      rcases h with ⟨k1, _, k3⟩ | ⟨R, _, k2, _, _⟩
      · subst k1; simp
      · rw [k2]; simp at hn; unfold loose; omega
    refine ⟨G ++ X, p, cap, ?_, by rw [List.append_nil, List.append_nil]; exact h.app X, fun A H0 q1 q2 => by rw [List.append_nil]; exact q2.app, fun j hj _ => by rw [List.append_nil, hget_old hj], by simp⟩
    simp only [List.length_nil, Nat.add_zero] at hb hn h2 ⊢
    simp only [aAppend, h1, h2, Nat.add_zero, if_true, List.append_nil]
    rw [if_neg (by omega)]
  · have hm0 : ¬ m.length = 0 := fun q => hm (List.length_eq_zero_iff.1 q)
    rcases h with ⟨k1, k2, k3⟩ | ⟨R, k1, k2, k3, k4⟩
    · subst k1 k2 k3
      refine ⟨G ++ (X ++ [.cells false (m.flatMap enc)]), some ⟨(G ++ X).length, 0, none⟩, loose e, ?_, ?_, fun A H0 q1 q2 => by rw [List.append_nil]; exact q2.app, fun j hj _ => by rw [List.append_nil, hget_old hj], by simp⟩
      · simp only [List.length_nil, Nat.zero_add] at hb hn ⊢
        simp only [aAppend, h1, h2, hm0, if_false, Nat.zero_add]
        rw [if_neg (by omega)]
        simp [place]
      · rw [List.append_nil, List.nil_append]
        refine Own.new ?_ (by simp; omega)
        rw [← List.append_assoc]; exact hget_new0
    · subst k1 k2
      have hRl := hget_alive k3
      have hR' : hget (G ++ X) R = .cells false (l.flatMap enc) := by rw [hget_old hRl]; exact k3
      have hold : AM.loadCells (G ++ X) ⟨R, 0, none⟩ (l.length * e) = some (l.flatMap enc) := by
        simp only [loadCells_lit, hR', Nat.zero_add, flat_len he, Nat.le_refl, if_true, List.drop_zero]
        rw [List.take_of_length_le (by rw [flat_len he]; exact Nat.le_refl _)]
      have hmt : Mut G (G.set R .dead) R := ⟨by simp, fun j hj => hget_set_ne hj⟩
      refine ⟨G.set R .dead ++ (X ++ [.cells false ((l ++ m).flatMap enc)]), some ⟨(G ++ X).length, 0, none⟩, loose e, ?_, ?_, fun A H0 q1 q2 => by rw [List.append_nil]; exact (q2.mut hmt (.inr (by omega))).app, fun j hj hp => by
        rw [List.append_nil, hget_old (by simpa using hj)]; exact hget_set_ne (hp _ rfl), by simp⟩
      · simp only [aAppend, h1, h2, hold, hR', hm0, if_false, if_true]
        rw [if_neg (by unfold loose; omega)]
        simp [show lim' ≤ R by omega, place, List.set_append_left _ _ hRl, List.append_assoc]
      · rw [List.append_nil]
        refine Own.new ?_ (by simp; omega)
        rw [← List.append_assoc, show (G ++ X).length = (G.set R .dead ++ X).length by simp]; exact hget_new0
theorem Own.moreD {α : Type} {lim lim' e bytes cap d : Nat} {G : Heap} {enc : α → List Value} {p : Option Addr} {l : List α} (h : Own lim G enc e p cap l) (hll : lim' ≤ lim) (he : ∀ x, (enc x).length = e) (he0 : e ≠ 0) (m : List α) (hb : (l.length + m.length) * bytes ≤ maxBytes) (hn : l.length + m.length < 2 ^ 61) (hlG : lim ≤ G.length)
    (X : Heap) (hd1 : G.length ≤ d) (hd2 : d < G.length + X.length) {x : Value} {str : Bool} (h1 : firstCells (G ++ X) e str x = some (m.flatMap enc)) (h2 : lenOf x = some m.length) :
    ∃ G2 p' cap', aAppend lim' (some d) e bytes str (.slice p l.length cap) x (G ++ X) = some (.slice p' (l.length + m.length) cap', G2 ++ []) ∧ Own lim (G2 ++ []) enc e p' cap' (l ++ m) ∧ (∀ A H0, H0.length ≤ lim → Chg A H0 G → Chg A H0 (G2 ++ [])) ∧
      (∀ j, j < G.length → (∀ a, p = some a → j ≠ a.block) → hget (G2 ++ []) j = hget G j) ∧ G.length ≤ G2.length := by
  by_cases hm : m = []
  · subst hm
    have hcap : l.length ≤ cap := by
      rcases h with ⟨k1, _, k3⟩ | ⟨R, _, k2, _, _⟩
      · subst k1; simp
      · rw [k2]; simp at hn; unfold loose; omega
    refine ⟨G ++ X, p, cap, ?_, by rw [List.append_nil, List.append_nil]; exact h.app X, fun A H0 q1 q2 => by rw [List.append_nil]; exact q2.app, fun j hj _ => by rw [List.append_nil, hget_old hj], by simp⟩
    simp only [List.length_nil, Nat.add_zero] at hb hn h2 ⊢
    simp only [aAppend, h1, h2, Nat.add_zero, if_true, List.append_nil]
    rw [if_neg (by omega)]
  · have hm0 : ¬ m.length = 0 := fun q => hm (List.length_eq_zero_iff.1 q)
    rcases h with ⟨k1, k2, k3⟩ | ⟨R, k1, k2, k3, k4⟩
    · subst k1 k2 k3
      refine ⟨(G ++ X).set d (.cells false (m.flatMap enc)), some ⟨d, 0, none⟩, loose e, ?_, ?_, fun A H0 q1 q2 => by rw [List.append_nil]; exact q2.app.set (.inr (by omega)), fun j hj _ => by rw [List.append_nil, hget_set_ne (by omega), hget_old hj], by simp⟩
      · simp only [List.length_nil, Nat.zero_add] at hb hn ⊢
        simp only [aAppend, h1, h2, hm0, if_false, Nat.zero_add]
        rw [if_neg (by omega)]
        simp [place]
      · rw [List.append_nil, List.nil_append]
        exact Own.new (hget_set_eq (by simp; omega)) (by omega)
    · subst k1 k2
      have hRl := hget_alive k3
      have hR' : hget (G ++ X) R = .cells false (l.flatMap enc) := by rw [hget_old hRl]; exact k3
      have hold : AM.loadCells (G ++ X) ⟨R, 0, none⟩ (l.length * e) = some (l.flatMap enc) := by
        simp only [loadCells_lit, hR', Nat.zero_add, flat_len he, Nat.le_refl, if_true, List.drop_zero]
        rw [List.take_of_length_le (by rw [flat_len he]; exact Nat.le_refl _)]
      refine ⟨((G ++ X).set R .dead).set d (.cells false ((l ++ m).flatMap enc)), some ⟨d, 0, none⟩, loose e, ?_, ?_, fun A H0 q1 q2 => by rw [List.append_nil]; exact (q2.app.set (.inr (by omega))).set (.inr (by omega)), fun j hj hp => by
        rw [List.append_nil, hget_set_ne (by omega), hget_set_ne (hp _ rfl), hget_old hj], by simp⟩
      · simp only [aAppend, h1, h2, hold, hR', hm0, if_false, if_true]
        rw [if_neg (by unfold loose; omega)]
        simp [show lim' ≤ R by omega, place]
      · rw [List.append_nil]
        exact Own.new (hget_set_eq (by simp; omega)) (by omega)
theorem first_slice {α : Type} {e k : Nat} {H : Heap} {enc : α → List Value} {p : Option Addr} {m : List α} (hs : Sl H enc e p m) : firstCells H e false (.slice p m.length k) = some (m.flatMap enc) := by
  by_cases hm : m = []
  · subst hm
    cases p <;> simp [firstCells]
  · obtain ⟨a, rfl, hl⟩ := hs.cells hm
    have : m.length ≠ 0 := fun h => hm (List.length_eq_zero_iff.1 h)
    simp [firstCells, this, hl]
/-! ### Parts of slices -/
def CapOk (e c n : Nat) : Prop := c = loose e ∨ (n ≤ c ∧ c < 2 ^ 62)
theorem flat_take {α : Type} {enc : α → List Value} {e : Nat} (he : ∀ x, (enc x).length = e) : ∀ (l : List α) (k : Nat), (l.take k).flatMap enc = (l.flatMap enc).take (k * e)
  | [], k => by simp
  | x :: l, 0 => by simp
  | x :: l, k + 1 => by
    rw [List.take_succ_cons, List.flatMap_cons, List.flatMap_cons, flat_take he l k, List.take_append, he, List.take_of_length_le (l := enc x) (by rw [he, Nat.succ_mul]; omega), Nat.succ_mul, Nat.add_sub_cancel]
theorem flat_dropN {α : Type} {enc : α → List Value} {e : Nat} (he : ∀ x, (enc x).length = e) : ∀ (l : List α) (k : Nat), (l.drop k).flatMap enc = (l.flatMap enc).drop (k * e)
  | [], k => by simp
  | x :: l, 0 => by simp
  | x :: l, k + 1 => by
    rw [List.drop_succ_cons, List.flatMap_cons, flat_dropN he l k, List.drop_append, he, List.drop_eq_nil_of_le (as := enc x) (by rw [he, Nat.succ_mul]; omega), List.nil_append, Nat.succ_mul, Nat.add_sub_cancel]
theorem Sl.sub {α : Type} {H : Heap} {enc : α → List Value} {e : Nat} {a : Addr} {l : List α} (h : Sl H enc e (Option.some a) l) (he : ∀ x, (enc x).length = e) {lo hi : Nat} (h1 : lo ≤ hi) (h2 : hi ≤ l.length) : Sl H enc e (Option.some (a.add (lo * e))) ((l.take hi).drop lo) := by
  obtain ⟨b, o, s⟩ := a
  have hs := h.1
  simp only at hs; subst hs
  rw [addr_add]
  refine ⟨rfl, fun hn => ?_⟩
  have hne : l ≠ [] := by rintro rfl; simp at hn
  obtain ⟨ro, c, k1, k2, k3⟩ := h.2 hne
  have hlen : ((l.take hi).drop lo).length = hi - lo := by simp; omega
  have e1 : (hi - lo) * e + lo * e = hi * e := by rw [← Nat.add_mul, Nat.sub_add_cancel h1]
  have e2 : hi * e ≤ l.length * e := Nat.mul_le_mul_right e h2
  refine ⟨ro, c, k1, by simp only [hlen] at *; omega, ?_⟩
  simp only at k2 k3 ⊢
  rw [hlen, flat_dropN he, flat_take he, ← k3, List.take_take, Nat.min_eq_left e2, List.drop_take, List.drop_drop, show hi * e - lo * e = (hi - lo) * e by omega]
/-- A part of a slice. -/
theorem slice_cut {α : Type} {H : Heap} {enc : α → List Value} {e : Nat} {p : Option Addr} {l : List α} {c lo hi : Nat} {vlo vhi : Option Value} (hs : Sl H enc e p l) (hc : CapOk e c l.length) (he : ∀ x, (enc x).length = e) (hb : ∀ cap, l.length ≤ cap → boundsV l.length cap vlo vhi none = some (lo, hi, cap)) (h1 : lo ≤ hi) (h2 : hi ≤ l.length) (hn : l.length < 2 ^ 62) :
    ∃ p' c', sliceV e (.slice p l.length c) vlo vhi none = some (.slice p' (hi - lo) c') ∧ Sl H enc e p' ((l.take hi).drop lo) ∧ CapOk e c' (hi - lo) ∧ (∀ a', p' = some a' → ∃ a, p = some a ∧ a'.block = a.block) ∧ (l ≠ [] → ∀ a', p' = some a' → AM.loadCells H a' 0 = some []) := by
  have h0 : l ≠ [] → ∀ a, p = some a → ∀ k, k ≤ l.length → AM.loadCells H (a.add (k * e)) 0 = some [] := by
    intro hne a ha k hk
    subst ha
    obtain ⟨b, o, s⟩ := a
    have hs' := hs.1
    simp only at hs'; subst hs'
    obtain ⟨ro, cs, k1, k2, k3⟩ := hs.2 hne
    simp only at k1 k2
    have := Nat.mul_le_mul_right e hk
    rw [addr_add, loadCells_lit, k1]
    simp only [Nat.add_zero, List.take_zero]
    rw [if_pos (by omega)]
  have h00 : l ≠ [] → ∀ a, p = some a → AM.loadCells H a 0 = some [] := by
    intro hne a ha
    have := h0 hne a ha 0 (Nat.zero_le _)
    subst ha
    obtain ⟨b, o, s⟩ := a
    have hs' := hs.1
    simp only at hs'; subst hs'
    rw [Nat.zero_mul, addr_add, Nat.add_zero] at this
    exact this
  have hB : ∀ cap, l.length ≤ cap → bounds unV l.length cap (vlo.map .const) (vhi.map .const) none = some (lo, hi, cap) := fun cap hcap => by
    rw [bounds_V, ← hb cap hcap]
    cases vlo <;> cases vhi <;> rfl
  have hblk : ∀ (a : Addr) (n : Nat), (a.add n).block = a.block := fun a n => by
    unfold Addr.add
    split <;> rfl
  rcases hc with rfl | ⟨c1, c2⟩
  · refine ⟨p.map (·.add (lo * e)), loose e, ?_, ?_, .inl rfl, fun a' h => ?_, fun hne a' h => ?_⟩
    · simp only [sliceV, aSliceS, Option.map_none, if_true, hB _ (Nat.le_refl _)]
    · cases p with
      | none => simp only [Sl] at hs; subst hs; simp [Sl]
      | some a => exact hs.sub he h1 h2
    · cases p with
      | none => cases h
      | some a => cases h; exact ⟨a, rfl, hblk _ _⟩
    · cases p with
      | none => cases h
      | some a => cases h; exact h0 hne a rfl lo (by omega)
  · have hnl : ¬ c = loose e := by unfold loose; omega
    refine ⟨if c = lo then p else p.map (·.add (lo * e)), c - lo, ?_, ?_, .inr ⟨by omega, by omega⟩, fun a' h => ?_, fun hne a' h => ?_⟩
    · simp only [sliceV, aSliceS, Option.map_none, if_neg hnl, if_pos c2, hB c c1]
    · split
      · have h0 : (l.take hi).drop lo = [] := List.drop_eq_nil_of_le (by simp; omega)
        rw [h0]
        cases p with
        | none => rfl
        | some a => exact ⟨hs.1, fun h => absurd rfl h⟩
      · cases p with
        | none => simp only [Sl] at hs; subst hs; simp [Sl]
        | some a => exact hs.sub he h1 h2
    · split at h
      · exact ⟨a', h, rfl⟩
      · cases p with
        | none => cases h
        | some a => cases h; exact ⟨a, rfl, hblk _ _⟩
    · split at h
      · exact h00 hne a' h
      · cases p with
        | none => cases h
        | some a => cases h; exact h0 hne a rfl lo (by omega)
theorem bytesOf_u8 : ∀ l : List UInt8, bytesOf (l.flatMap fun b => [Value.int .u8 b.toNat]) = some l
  | [] => rfl
  | b :: l => by
    rw [List.flatMap_cons]
    show bytesOf (.int .u8 b.toNat :: (l.flatMap fun b => [Value.int .u8 b.toNat])) = _
    rw [bytesOf_cons, bytesOf_u8 l]
    simp
theorem b2s_sl {H : Heap} {p : Option Addr} {l : List UInt8} {c : Nat} (hs : Sl H (fun b : UInt8 => [Value.int .u8 b.toNat]) 1 p l) (h0 : l = [] → ∀ a, p = some a → AM.loadCells H a 0 = some []) : b2sV (.slice p l.length c) H = some (.string ⟨l.toArray⟩, H) := by
  cases p with
  | none => simp only [Sl] at hs; subst hs; rfl
  | some a =>
    rw [b2sV_some]
    by_cases hn : l = []
    · subst hn
      rw [List.length_nil, h0 rfl a rfl]
      rfl
    · obtain ⟨a', h1, h2⟩ := hs.cells hn
      cases h1
      rw [Nat.mul_one] at h2
      rw [h2]
      simp only [bytesOf_u8]
end Go.AM
namespace Go.Proofs.Ytdddehniepofmaa.Fn
open Go.AM Go.AM.Sym
set_option maxRecDepth 100000
set_option linter.unusedVariables false
set_option linter.unusedSimpArgs false
set_option maxHeartbeats 4000000

def orc (g : FuncId) (as : List Value) : Option Value := if g = 11 ∧ as = [] then some (.bool true) else none
def E : Env := ⟨tr, pf, orc⟩
section
variable {mp : Bool} {lim : Nat} {g : FuncId} {as : List Value} {v : Value} {af : AFunc} {H : Heap} {Q : Value → Heap → Prop}
theorem pc (h : g ≠ 11) (ht : tr g = some af) (hp : pf g = true) (hf : flat 4 v = true) (hr : Ret E af H.length [.code af.body] (frame0 as) (H ++ []) fun v' _ => v' = v) : CallR E mp lim g as H Q = Q v H :=
  CallR_pure (E := E) (by simp [E, orc, h]) ht hp hf (Ret_pad hr)
theorem po (h : g ≠ 11) (ht : tr g = some af) (hp : pf g = true) (hf : olds H.length 4 v = true) (hr : Ret E af H.length [.code af.body] (frame0 as) (H ++ []) fun v' _ => v' = v) : CallR E mp lim g as H Q = Q v H :=
  CallR_old (E := E) (by simp [E, orc, h]) ht hp hf (Ret_pad hr)
theorem runs (h : g ≠ 11) (ht : tr g = some af) (hp : pf g = false) (hr : Ret E af lim [.code af.body] (frame0 as) (H ++ []) Q) : CallR E false lim g as H Q := by
  rw [CallR_run (E := E) (by simp [E, orc, h]) ht hp rfl]; exact Ret_pad hr
theorem awake_ok (mp : Bool) (lim : Nat) (H : Heap) (Q : Value → Heap → Prop) : CallR E mp lim 11 [] H Q = Q (.bool true) H :=
  CallR_orc (E := E) (by simp [E, orc]) rfl rfl
end

abbrev Sec := Vector UInt8 32
def u8 (b : UInt8) : Value := .int .u8 b.toNat
def encX (s : Sec) : List Value := s.toList.map u8
theorem encX_len (s : Sec) : (encX s).length = 32 := by simp [encX]
structure Wr where
  pos : Int
  data : Sec
  deriving Inhabited, DecidableEq
def encW (w : Wr) : List Value := .int .i64 w.pos :: encX w.data
theorem encW_len (w : Wr) : (encW w).length = 33 := by simp [encW, encX_len]
theorem encW_mk {a : Int} {s : Sec} : encW ⟨a, s⟩ = .int .i64 a :: encX s := rfl
theorem encW_0 {w : Wr} : (encW w)[0]? = some (.int .i64 w.pos) := id rfl
theorem encW_data {w : Wr} : ((encW w).drop 1).take 32 = encX w.data := by
  show (encX w.data).take 32 = _
  rw [List.take_of_length_le (by rw [encX_len]; exact Nat.le_refl _)]
def encB (b : Bool) : List Value := [.bool b]
theorem encB_len (b : Bool) : (encB b).length = 1 := rfl
def encI (n : Int) : List Value := [.int .i64 n]

theorem u8_inj {a b : UInt8} : u8 a = u8 b ↔ a = b := by
  constructor
  · intro h
    simp only [u8, Value.int.injEq, true_and] at h
    exact UInt8.toNat_inj.1 (by omega)
  · rintro rfl; rfl
theorem encX_inj {a b : Sec} : encX a = encX b ↔ a = b := by
  constructor
  · intro h
    have : a.toList = b.toList := by
      apply List.ext_getElem (by simp)
      intro i h1 h2
      have := congrArg (fun l => l[i]?) h
      simp only [encX, List.getElem?_map, List.getElem?_eq_getElem h1, List.getElem?_eq_getElem h2, Option.map_some, Option.some.injEq, u8_inj] at this
      exact this
    exact Vector.toList_inj.1 this
  · rintro rfl; rfl
theorem eqX (a b : Sec) : aEq (.agg [.int .u8, .int .u8, .int .u8, .int .u8, .int .u8, .int .u8, .int .u8, .int .u8, .int .u8, .int .u8, .int .u8, .int .u8, .int .u8, .int .u8, .int .u8, .int .u8, .int .u8, .int .u8, .int .u8, .int .u8, .int .u8, .int .u8, .int .u8, .int .u8, .int .u8, .int .u8, .int .u8, .int .u8, .int .u8, .int .u8, .int .u8, .int .u8]) (.agg (encX a).toArray) (.agg (encX b).toArray) = some (decide (a = b)) := by
  show cellsEq (List.replicate 32 (.int .u8)) (encX a) (encX b) = _
  obtain ⟨t, h1, h2⟩ := cellsEq_dec (.int .u8) 32 (encX a) (encX b) (encX_len a) (encX_len b) (by
    intro x hx y hy
    simp only [encX, List.mem_map] at hx hy
    obtain ⟨x, _, rfl⟩ := hx
    obtain ⟨y, _, rfl⟩ := hy
    refine ⟨_, rfl, ?_⟩
    rw [beq_iff_eq, u8_inj]
    constructor
    · intro h; exact UInt8.toNat_inj.1 (by omega)
    · rintro rfl; rfl)
  rw [h1]
  congr 1
  rw [Bool.eq_iff_iff, h2, encX_inj]; simp

/-- Is a sector there? -/
def hasA (n : Nat) (a : Int) : Bool := decide (0 ≤ a ∧ a < (n : Int))
theorem has_ok {mp : Bool} {lim D n c : Nat} {a : Int} {sp : Option Addr} {ro : Bool} {r : List Value} {H : Heap} {Q : Value → Heap → Prop} (hD : hget H D = .cells ro (.slice sp n c :: r)) :
    CallR E mp lim 39 [.pointer (some ⟨D, 0, none⟩), .int .i64 a] H Q = Q (.bool (hasA n a)) H := by
  refine pc (by decide) e39 rfl rfl ?_
  rw [b39, c39]
  have hD' := fun X => (Ext.refl.app (X := X)).cells hD
  simp only [n39, r39, hD', loadCell_lit, SB, Nat.reduceLT, callee, aOp, ne_eq, Nat.reduceEqDiff, aBin, aUn, if_true, if_false, reduceCtorEq, frame0, place, notTuple, Nat.reduceAdd, Nat.reduceLeDiff, resVal, dite_true, dite_false, Int.reduceEq, Int.reduceLT, Int.reduceLE]
  repeat' ((first | refine wantK_dec (fun hw => ?_) (fun hw => ?_) | refine condK_dec (fun hw => ?_) (fun hw => ?_) | refine wantK_any (fun hw => ?_) (fun hw => ?_) | refine condK_any (fun hw => ?_) (fun hw => ?_)) <;> (try simp only [hw, n39, r39, hD', loadCell_lit, SB, Nat.reduceLT, callee, aOp, ne_eq, Nat.reduceEqDiff, aBin, aUn, if_true, if_false, reduceCtorEq, frame0, place, notTuple, Nat.reduceAdd, Nat.reduceLeDiff, resVal, dite_true, dite_false, Int.reduceEq, Int.reduceLT, Int.reduceLE]))
  all_goals simp [hasA]; omega

/-- The sectors when the disk has crashed; lost from the index i on. -/
def crashGo (lost : List Bool) : Nat → List Wr → List Sec → List Sec
  | _, [], s => s
  | i, w :: ws, s => crashGo lost (i + 1) ws (if hasA s.length w.pos && !lost.getD i false then s.set w.pos.toNat w.data else s)
def crashed (lost : List Bool) (pend : List Wr) (safe : List Sec) : List Sec := crashGo lost 0 pend safe
theorem crashGo_drop {lost : List Bool} {pend : List Wr} {s : List Sec} {i : Nat} (h : i < pend.length) : crashGo lost i (pend.drop i) s = crashGo lost (i + 1) (pend.drop (i + 1)) (if hasA s.length (gt pend i).pos && !lost.getD i false then s.set (gt pend i).pos.toNat (gt pend i).data else s) := by
  rw [List.drop_eq_getElem_cons h, crashGo, gt_lt h]
theorem crashGo_len (lost : List Bool) : ∀ (ws : List Wr) (i : Nat) (s : List Sec), (crashGo lost i ws s).length = s.length
  | [], _, _ => rfl
  | w :: ws, i, s => by
    rw [crashGo, crashGo_len]
    split
    · simp
    · rfl
theorem crashed_len {lost : List Bool} {pend : List Wr} {safe : List Sec} : (crashed lost pend safe).length = safe.length := crashGo_len _ _ _ _

theorem Crash_ok {lim D S sc pc' lc ln : Nat} {sp pp pl : Option Addr} {safe : List Sec} {pend : List Wr} {lost : List Bool} {H : Heap} {Q : Value → Heap → Prop}
    (hD : hget H D = .cells false [.slice sp safe.length sc, .slice pp pend.length pc']) (hlD : lim ≤ D) (hS : safe ≠ [] → sp = some ⟨S, 0, none⟩ ∧ hget H S = .cells false (safe.flatMap encX) ∧ lim ≤ S) (hSD : S ≠ D)
    (hP : Sl H encW 33 pp pend) (hPS : ∀ a, pp = some a → pend ≠ [] → a.block ≠ S ∧ a.block ≠ D) (hL : Sl H encB 1 pl lost) (hLS : ∀ a, pl = some a → lost ≠ [] → a.block ≠ S ∧ a.block ≠ D)
    (hn1 : safe.length < 2 ^ 60) (hn2 : pend.length < 2 ^ 60) (hn3 : lost.length < 2 ^ 60) (hln : ln = lost.length)
    (hQ : ∀ H', Chg [S, D] H H' → hget H' D = .cells false [.slice sp safe.length sc, .slice none 0 0] → (safe ≠ [] → hget H' S = .cells false ((crashed lost pend safe).flatMap encX)) → Q (.tuple #[]) H') :
    CallR E false lim 13 [.pointer (some ⟨D, 0, none⟩), .slice pl ln lc] H Q := by
  subst hln
  refine runs (by decide) e13 rfl ?_
  rw [b13, c13]
  have hDl := hget_alive hD
  have hD' := fun X => (Ext.refl.app (X := X)).cells hD
  simp only [n13, r13, hD', loadCell_lit, aEq, Option.isNone_some, SB, Nat.reduceLT, callee, aOp, ne_eq, Nat.reduceEqDiff, aBin, aUn, if_true, if_false, reduceCtorEq, frame0, place, notTuple, Nat.reduceAdd, Nat.reduceLeDiff, resVal, dite_true, dite_false, Int.reduceEq, Int.reduceLT, Int.reduceLE]
  refine Ret_rounds (fun s : Nat × List Sec => pend.length - s.1) (fun s fr G => s.1 ≤ pend.length ∧ fr 0 = .pointer (some ⟨D, 0, none⟩) ∧ fr 1 = .slice pl lost.length lc ∧ fr 11 = .slice pp pend.length pc' ∧ fr 12 = .int .i64 (pend.length : Int) ∧ fr 13 = .int .i64 (s.1 : Int) ∧
    Chg [S] H G ∧ s.2.length = safe.length ∧ (safe ≠ [] → hget G S = .cells false (s.2.flatMap encX)) ∧ crashed lost pend safe = crashGo lost s.1 (pend.drop s.1) s.2) (0, safe) ⟨Nat.zero_le _, (by simp only [upd_same, upd_ne, ne_eq, Nat.reduceEqDiff, not_false_eq_true, frame0, List.getD_cons_zero, List.getD_cons_succ]), (by simp only [upd_same, upd_ne, ne_eq, Nat.reduceEqDiff, not_false_eq_true, frame0, List.getD_cons_zero, List.getD_cons_succ]), (by simp only [upd_same, upd_ne, ne_eq, Nat.reduceEqDiff, not_false_eq_true, frame0, List.getD_cons_zero, List.getD_cons_succ]), (by simp only [upd_same, upd_ne, ne_eq, Nat.reduceEqDiff, not_false_eq_true, frame0, List.getD_cons_zero, List.getD_cons_succ]), by rfl, Chg.refl.app, rfl, fun h => (Ext.refl.app (X := [])).cells (hS h).2.1, rfl⟩ ?_
  rintro ⟨i, cur⟩ fr G ⟨hi, h0, h1, h11, h12, h13, hC, hcl, hcur, ha⟩ hN
  simp only at hi h13 hcl hcur ha
  rw [Ret_code l13_1.eq_1]
  refine Ret_pad ?_
  have hDG : hget G D = _ := hC.cells hD (by simp; omega)
  have hDl' := hget_alive hDG
  have hDX := fun X => (Ext.refl.app (X := X)).cells hDG
  by_cases hlt : i < pend.length
  · have hpn : pend ≠ [] := by rintro rfl; simp at hlt
    have hPG := hC.sl hP fun a e h => by simp; exact (hPS a e h).1
    have hLG := hC.sl hL fun a e h => by simp; exact (hLS a e h).1
    have hld := fun X => (hPG.app X).loadCells encW_len hlt
    have hidx := fun c (k : IntKind) (H1 : Heap) => hPG.idx (c := c) (k := k) (H1 := H1) hlt
    have hw1 : IntKind.i64.wrap ((i : Int) + 1) = ((i + 1 : Nat) : Int) := wrap_nat (by omega)
    have hDX := fun X => (Ext.refl.app (X := X)).cells hDG
    have hhas := fun X (a : Int) (mp : Bool) (lim : Nat) (Q : Value → Heap → Prop) => has_ok (mp := mp) (lim := lim) (a := a) (Q := Q) (hDX X)
    have hlidx := fun (h : i < lost.length) c (k : IntKind) (H1 : Heap) => hLG.idx (c := c) (k := k) (H1 := H1) h
    have hlld := fun (h : i < lost.length) X => (hLG.app X).loadCell0 encB_len h (by decide)
    have hlG : lim ≤ G.length := by omega
    have hpw : i + 1 < 2 ^ 63 := by omega
    have hlen : G.length ≤ G.length := Nat.le_refl _
    have next : ∀ (cur' : List Sec) (G' X : Heap) (fr' : Nat → Value), cur' = (if hasA cur.length (gt pend i).pos && !lost.getD i false then cur.set (gt pend i).pos.toNat (gt pend i).data else cur) → fr' 0 = .pointer (some ⟨D, 0, none⟩) → fr' 1 = .slice pl lost.length lc → fr' 11 = .slice pp pend.length pc' → fr' 12 = .int .i64 (pend.length : Int) → fr' 13 = .int .i64 ((i + 1 : Nat) : Int) →
        Mut G G' S → (safe ≠ [] → hget G' S = .cells false (cur'.flatMap encX)) → Ret E a13 lim [.inLoop l13_1, .inBlock 0, .code (.ops [Sym.i 45 (.mov (t 0)), Sym.i 46 (.nilCheck (t 45)), Sym.i 47 (.fieldAddr 1 (t 46)), ⟨none, none, .store 1 (t 47) (k (.slice none 0 0)), none, []⟩])] fr' (G' ++ X) Q := by
      intro cur' G' X fr' hc' g0 g1 g11 g12 g13 hm hg
      refine hN (i + 1, cur') _ _ ⟨by show i + 1 ≤ _; omega, g0, g1, g11, g12, g13, (hC.mut hm (.inl (by simp))).app, ?_, fun h => (Ext.refl.app (X := X)).cells (hg h), ?_⟩ (by show _ - (i + 1) < _; omega)
      · show cur'.length = _
        rw [hc']; split <;> simp [hcl]
      · show _ = crashGo _ (i + 1) _ cur'
        rw [ha, crashGo_drop hlt, hc']
    cases hh : hasA safe.length (gt pend i).pos with
    | false =>
      simp only [n13, r13, h0, h1, h11, h12, h13, hlt, hld, hidx, hDX, hhas, encW_len, setAll_full, encW_0, encW_data, loadCell_lit, loadCells_lit, storeAt_lit, hlG, hlen, hw1, encB, Option.isNone_some, cells_slice, arr1, size1, encX_len, hh, SB, Nat.reduceLT, callee, aOp, ne_eq, Nat.reduceEqDiff, aBin, aUn, if_true, if_false, reduceCtorEq, frame0, place, notTuple, Nat.reduceAdd, Nat.reduceLeDiff, resVal, dite_true, dite_false, Int.reduceEq, Int.reduceLT, Int.reduceLE]
      exact next cur G _ _ (by rw [hcl, hh]; rfl) (by simp only [h0, upd_same, upd_ne, ne_eq, Nat.reduceEqDiff, not_false_eq_true, frame0, List.getD_cons_zero, List.getD_cons_succ]) (by simp only [h1, upd_same, upd_ne, ne_eq, Nat.reduceEqDiff, not_false_eq_true, frame0, List.getD_cons_zero, List.getD_cons_succ]) (by simp only [h11, upd_same, upd_ne, ne_eq, Nat.reduceEqDiff, not_false_eq_true, frame0, List.getD_cons_zero, List.getD_cons_succ]) (by simp only [h12, upd_same, upd_ne, ne_eq, Nat.reduceEqDiff, not_false_eq_true, frame0, List.getD_cons_zero, List.getD_cons_succ]) (by simp only [upd_same, upd_ne, ne_eq, Nat.reduceEqDiff, not_false_eq_true, frame0, List.getD_cons_zero, List.getD_cons_succ]) ⟨rfl, fun _ _ => rfl⟩ hcur
    | true =>
      obtain ⟨k, hk, hks⟩ : ∃ k : Nat, (gt pend i).pos = (k : Int) ∧ k < safe.length := by
        simp only [hasA, decide_eq_true_eq] at hh
        exact ⟨(gt pend i).pos.toNat, by omega, by omega⟩
      have hsn : safe ≠ [] := by rintro rfl; simp at hks
      obtain ⟨hsp, hS1, hS2⟩ := hS hsn
      have hsi : ∀ H1, idxK 32 (.slice sp safe.length sc) (.int .i64 (gt pend i).pos) H1 = some (.pointer (some (elt sp 32 k)), H1) := fun H1 => by
        rw [hsp, hk]; exact idxK_nat hks
      obtain ⟨G', hst, hG', hm⟩ := store_mut (lim := lim) (e := 32) encX_len hsp (hcur hsn) hS2 (show k < cur.length by rw [hcl]; exact hks) (gt pend i).data
      by_cases hil : i < lost.length
      · cases hgl : gt lost i with
        | true =>
          simp only [n13, r13, h0, h1, h11, h12, h13, hlt, hld, hidx, hDX, hhas, encW_len, setAll_full, encW_0, encW_data, loadCell_lit, loadCells_lit, storeAt_lit, hlG, hlen, hw1, encB, Option.isNone_some, cells_slice, arr1, size1, encX_len, hh, hil, hlidx hil, hlld hil, hgl, int_le_cast, show ¬ lost.length ≤ i by omega, List.getElem?_cons_zero, SB, Nat.reduceLT, callee, aOp, ne_eq, Nat.reduceEqDiff, aBin, aUn, if_true, if_false, reduceCtorEq, frame0, place, notTuple, Nat.reduceAdd, Nat.reduceLeDiff, resVal, dite_true, dite_false, Int.reduceEq, Int.reduceLT, Int.reduceLE]
          exact next cur G _ _ (by rw [show lost.getD i false = true by rw [← hgl]; simp [gt, List.getD_eq_getElem?_getD, List.getElem?_eq_getElem hil]]; simp) (by simp only [h0, upd_same, upd_ne, ne_eq, Nat.reduceEqDiff, not_false_eq_true, frame0, List.getD_cons_zero, List.getD_cons_succ]) (by simp only [h1, upd_same, upd_ne, ne_eq, Nat.reduceEqDiff, not_false_eq_true, frame0, List.getD_cons_zero, List.getD_cons_succ]) (by simp only [h11, upd_same, upd_ne, ne_eq, Nat.reduceEqDiff, not_false_eq_true, frame0, List.getD_cons_zero, List.getD_cons_succ]) (by simp only [h12, upd_same, upd_ne, ne_eq, Nat.reduceEqDiff, not_false_eq_true, frame0, List.getD_cons_zero, List.getD_cons_succ]) (by simp only [upd_same, upd_ne, ne_eq, Nat.reduceEqDiff, not_false_eq_true, frame0, List.getD_cons_zero, List.getD_cons_succ]) ⟨rfl, fun _ _ => rfl⟩ hcur
        | false =>
          simp only [n13, r13, h0, h1, h11, h12, h13, hlt, hld, hidx, hDX, hhas, encW_len, setAll_full, encW_0, encW_data, loadCell_lit, loadCells_lit, storeAt_lit, hlG, hlen, hw1, encB, Option.isNone_some, cells_slice, arr1, size1, encX_len, hh, hil, hlidx hil, hlld hil, hgl, int_le_cast, show ¬ lost.length ≤ i by omega, List.getElem?_cons_zero, hsi, hst, SB, Nat.reduceLT, callee, aOp, ne_eq, Nat.reduceEqDiff, aBin, aUn, if_true, if_false, reduceCtorEq, frame0, place, notTuple, Nat.reduceAdd, Nat.reduceLeDiff, resVal, dite_true, dite_false, Int.reduceEq, Int.reduceLT, Int.reduceLE]
          exact next _ G' _ _ (by rw [hcl, hh, show lost.getD i false = false by rw [← hgl]; simp [gt, List.getD_eq_getElem?_getD, List.getElem?_eq_getElem hil]]; simp [hk]) (by simp only [h0, upd_same, upd_ne, ne_eq, Nat.reduceEqDiff, not_false_eq_true, frame0, List.getD_cons_zero, List.getD_cons_succ]) (by simp only [h1, upd_same, upd_ne, ne_eq, Nat.reduceEqDiff, not_false_eq_true, frame0, List.getD_cons_zero, List.getD_cons_succ]) (by simp only [h11, upd_same, upd_ne, ne_eq, Nat.reduceEqDiff, not_false_eq_true, frame0, List.getD_cons_zero, List.getD_cons_succ]) (by simp only [h12, upd_same, upd_ne, ne_eq, Nat.reduceEqDiff, not_false_eq_true, frame0, List.getD_cons_zero, List.getD_cons_succ]) (by simp only [upd_same, upd_ne, ne_eq, Nat.reduceEqDiff, not_false_eq_true, frame0, List.getD_cons_zero, List.getD_cons_succ]) hm fun _ => hG'
      · simp only [n13, r13, h0, h1, h11, h12, h13, hlt, hld, hidx, hDX, hhas, encW_len, setAll_full, encW_0, encW_data, loadCell_lit, loadCells_lit, storeAt_lit, hlG, hlen, hw1, encB, Option.isNone_some, cells_slice, arr1, size1, encX_len, hh, hil, int_le_cast, show lost.length ≤ i by omega, hsi, hst, SB, Nat.reduceLT, callee, aOp, ne_eq, Nat.reduceEqDiff, aBin, aUn, if_true, if_false, reduceCtorEq, frame0, place, notTuple, Nat.reduceAdd, Nat.reduceLeDiff, resVal, dite_true, dite_false, Int.reduceEq, Int.reduceLT, Int.reduceLE]
        exact next _ G' _ _ (by rw [hcl, hh, show lost.getD i false = false by rw [List.getD_eq_getElem?_getD, List.getElem?_eq_none (by omega)]; rfl]; simp [hk]) (by simp only [h0, upd_same, upd_ne, ne_eq, Nat.reduceEqDiff, not_false_eq_true, frame0, List.getD_cons_zero, List.getD_cons_succ]) (by simp only [h1, upd_same, upd_ne, ne_eq, Nat.reduceEqDiff, not_false_eq_true, frame0, List.getD_cons_zero, List.getD_cons_succ]) (by simp only [h11, upd_same, upd_ne, ne_eq, Nat.reduceEqDiff, not_false_eq_true, frame0, List.getD_cons_zero, List.getD_cons_succ]) (by simp only [h12, upd_same, upd_ne, ne_eq, Nat.reduceEqDiff, not_false_eq_true, frame0, List.getD_cons_zero, List.getD_cons_succ]) (by simp only [upd_same, upd_ne, ne_eq, Nat.reduceEqDiff, not_false_eq_true, frame0, List.getD_cons_zero, List.getD_cons_succ]) hm fun _ => hG'
  · obtain rfl : i = pend.length := by omega
    obtain ⟨G', hset, hGD, hm⟩ := mut_set hDl' (.cells false [.slice sp safe.length sc, .slice none 0 0])
    simp only [n13, r13, h0, h1, h11, h12, h13, hlt, cells_slice, arr1, size1, storeAt_lit, hDX, hlD, hset, SB, Nat.reduceLT, callee, aOp, ne_eq, Nat.reduceEqDiff, aBin, aUn, if_true, if_false, reduceCtorEq, frame0, place, notTuple, Nat.reduceAdd, Nat.reduceLeDiff, resVal, dite_true, dite_false, Int.reduceEq, Int.reduceLT, Int.reduceLE]
    refine hQ _ ((hC.mono (by simp; intro j _ h; exact .inl h)).mut hm (.inl (by simp))).app ((Ext.refl.app).cells hGD) fun h => ?_
    rw [ha, List.drop_length, crashGo]
    exact (Ext.refl.app).cells (hm.cells (hcur h) hSD)
end Go.Proofs.Ytdddehniepofmaa.Fn
namespace Go.Proofs.Ytdddehniepofmaa.Fn
open Go.AM Go.AM.Sym
set_option maxRecDepth 100000
set_option linter.unusedVariables false
set_option linter.unusedSimpArgs false
set_option maxHeartbeats 4000000

theorem Crash_nil {lim lc n : Nat} {pl : Option Addr} {H : Heap} {Q : Value → Heap → Prop} (hQ : Q (.tuple #[]) (H ++ [])) : CallR E false lim 13 [.pointer none, .slice pl n lc] H Q := by
  refine runs (by decide) e13 rfl ?_
  rw [b13, c13]
  simp only [n13, r13, aEq, Option.isNone_none, SB, Nat.reduceLT, callee, aOp, ne_eq, Nat.reduceEqDiff, aBin, aUn, if_true, if_false, reduceCtorEq, frame0, place, notTuple, Nat.reduceAdd, Nat.reduceLeDiff, resVal, dite_true, dite_false, Int.reduceEq, Int.reduceLT, Int.reduceLE]
  exact hQ
theorem Sync_nil {lim : Nat} {H : Heap} {Q : Value → Heap → Prop} (hQ : Q (.tuple #[]) (H ++ [])) : CallR E false lim 14 [.pointer none] H Q := by
  refine runs (by decide) e14 rfl ?_
  rw [b14, c14]
  simp only [n14, r14, SB, Nat.reduceLT, callee, aOp, ne_eq, Nat.reduceEqDiff, aBin, aUn, if_true, if_false, reduceCtorEq, frame0, place, notTuple, Nat.reduceAdd, Nat.reduceLeDiff, resVal, dite_true, dite_false, Int.reduceEq, Int.reduceLT, Int.reduceLE]
  refine Crash_nil ?_
  simp only [n14, r14, SB, Nat.reduceLT, callee, aOp, ne_eq, Nat.reduceEqDiff, aBin, aUn, if_true, if_false, reduceCtorEq, frame0, place, notTuple, Nat.reduceAdd, Nat.reduceLeDiff, resVal, dite_true, dite_false, Int.reduceEq, Int.reduceLT, Int.reduceLE]
  simpa using hQ
theorem Sync_ok {lim D S sc pc' : Nat} {sp pp : Option Addr} {safe : List Sec} {pend : List Wr} {H : Heap} {Q : Value → Heap → Prop}
    (hD : hget H D = .cells false [.slice sp safe.length sc, .slice pp pend.length pc']) (hlD : lim ≤ D) (hS : safe ≠ [] → sp = some ⟨S, 0, none⟩ ∧ hget H S = .cells false (safe.flatMap encX) ∧ lim ≤ S) (hSD : S ≠ D)
    (hP : Sl H encW 33 pp pend) (hPS : ∀ a, pp = some a → pend ≠ [] → a.block ≠ S ∧ a.block ≠ D)
    (hn1 : safe.length < 2 ^ 60) (hn2 : pend.length < 2 ^ 60)
    (hQ : ∀ H', Chg [S, D] H H' → hget H' D = .cells false [.slice sp safe.length sc, .slice none 0 0] → (safe ≠ [] → hget H' S = .cells false ((crashed [] pend safe).flatMap encX)) → Q (.tuple #[]) H') :
    CallR E false lim 14 [.pointer (some ⟨D, 0, none⟩)] H Q := by
  refine runs (by decide) e14 rfl ?_
  rw [b14, c14]
  simp only [n14, r14, SB, Nat.reduceLT, callee, aOp, ne_eq, Nat.reduceEqDiff, aBin, aUn, if_true, if_false, reduceCtorEq, frame0, place, notTuple, Nat.reduceAdd, Nat.reduceLeDiff, resVal, dite_true, dite_false, Int.reduceEq, Int.reduceLT, Int.reduceLE]
  refine Crash_ok (lost := []) ((Ext.refl.app (X := [])).cells hD) hlD (fun h => ⟨(hS h).1, (Ext.refl.app (X := [])).cells (hS h).2.1, (hS h).2.2⟩) hSD (hP.app _) hPS rfl (fun a h => by cases h) hn1 hn2 (by decide) rfl fun H' h1 h2 h3 => ?_
  refine Ret_pad ?_
  simp only [n14, r14, SB, Nat.reduceLT, callee, aOp, ne_eq, Nat.reduceEqDiff, aBin, aUn, if_true, if_false, reduceCtorEq, frame0, place, notTuple, Nat.reduceAdd, Nat.reduceLeDiff, resVal, dite_true, dite_false, Int.reduceEq, Int.reduceLT, Int.reduceLE]
  exact hQ _ (by rw [List.append_nil] at h1 ⊢; exact h1) (by rw [List.append_nil]; exact h2) (by rw [List.append_nil]; exact h3)

/-- Which writes are lost. -/
def lostBit (m : Int) (i : Nat) : Bool := decide (IntKind.u64.wrap ((BitVec.ofInt IntKind.u64.bits (Int.fdiv m (2 ^ min (i % 64) IntKind.u64.bits)) &&& BitVec.ofInt IntKind.u64.bits 1).toNat : Int) = 1)
theorem lostBit_eq {m : Int} {i : Nat} : decide (IntKind.u64.wrap ((BitVec.ofInt IntKind.u64.bits (Int.fdiv m (2 ^ min (i % 64) IntKind.u64.bits)) &&& BitVec.ofInt IntKind.u64.bits 1).toNat : Int) = 1) = lostBit m i := rfl
def lostL (m : Int) (n : Nat) : List Bool := (List.range n).map (lostBit m)
theorem lostL_succ {m : Int} {n : Nat} : lostL m (n + 1) = lostL m n ++ [lostBit m n] := by simp [lostL, List.range_succ]
theorem lostL_len {m : Int} {n : Nat} : (lostL m n).length = n := by simp [lostL]
theorem lost_ok {lim n : Nat} {m : Int} {H : Heap} {Q : Value → Heap → Prop} (hl : lim ≤ H.length) (hn : n < 2 ^ 40) (hQ : ∀ p cap H', Chg [] H H' → Own H.length H' encB 1 p cap (lostL m n) → Q (.slice p n cap) H') : CallR E false lim 12 [.int .u64 m, .int .i64 (n : Int)] H Q := by
  refine runs (by decide) e12 rfl ?_
  rw [b12, c12]
  simp only [n12, r12, SB, Nat.reduceLT, callee, aOp, ne_eq, Nat.reduceEqDiff, aBin, aUn, if_true, if_false, reduceCtorEq, frame0, place, notTuple, Nat.reduceAdd, Nat.reduceLeDiff, resVal, dite_true, dite_false, Int.reduceEq, Int.reduceLT, Int.reduceLE]
  refine Ret_rounds (fun s : Nat × Option Addr × Nat => n - s.1) (fun s fr G => s.1 ≤ n ∧ fr 0 = .int .u64 m ∧ fr 1 = .int .i64 (n : Int) ∧ fr 5 = .slice s.2.1 s.1 s.2.2 ∧ fr 6 = .int .i64 (s.1 : Int) ∧ Chg [] H G ∧ Own H.length G encB 1 s.2.1 s.2.2 (lostL m s.1)) (0, none, 0) ⟨Nat.zero_le _, (by simp only [upd_same, upd_ne, ne_eq, Nat.reduceEqDiff, not_false_eq_true, frame0, List.getD_cons_zero, List.getD_cons_succ]), (by simp only [upd_same, upd_ne, ne_eq, Nat.reduceEqDiff, not_false_eq_true, frame0, List.getD_cons_zero, List.getD_cons_succ]), (by simp only [upd_same, upd_ne, ne_eq, Nat.reduceEqDiff, not_false_eq_true, frame0, List.getD_cons_zero, List.getD_cons_succ]), by rfl, Chg.refl.app, Own.nil⟩ ?_
  rintro ⟨i, p, cap⟩ fr G ⟨hi, h0, h1, h5, h6, hC, hO⟩ hN
  simp only at hi h5 h6 hO
  rw [Ret_code l12_1.eq_1]
  refine Ret_pad ?_
  by_cases hlt : i < n
  · have hw1 : IntKind.i64.wrap ((i : Int) + 1) = ((i + 1 : Nat) : Int) := wrap_nat (by omega)
    have hmod : Int.tmod (i : Int) 64 = ((i % 64 : Nat) : Int) := rfl
    have hneg : (((i % 64 : Nat) : Int) < 0) = False := by simp; omega
    have hO' := hO
    obtain ⟨G2, hp, hO2, hC2, _⟩ := hO.step (lim' := lim) (bytes := 1) hl encB_len (by decide) (lostBit m i) (by rw [lostL_len]; unfold maxBytes; omega) (by rw [lostL_len]; omega) hC.len [.cells false [.bool (lostBit m i)]] G.length 1 (by rw [hget_new0]; rfl)
    rw [lostL_len] at hp
    simp only [n12, r12, h0, h1, h5, h6, hlt, hmod, hw1, hneg, Int.toNat_natCast, lostBit_eq, hp, SB, Nat.reduceLT, callee, aOp, ne_eq, Nat.reduceEqDiff, aBin, aUn, if_true, if_false, reduceCtorEq, frame0, place, notTuple, Nat.reduceAdd, Nat.reduceLeDiff, resVal, dite_true, dite_false, Int.reduceEq, Int.reduceLT, Int.reduceLE]
    exact hN (i + 1, some ⟨G.length + 1, 0, none⟩, loose 1) _ _ ⟨by show i + 1 ≤ _; omega, (by simp only [h0, upd_same, upd_ne, ne_eq, Nat.reduceEqDiff, not_false_eq_true, frame0, List.getD_cons_zero, List.getD_cons_succ]), (by simp only [h1, upd_same, upd_ne, ne_eq, Nat.reduceEqDiff, not_false_eq_true, frame0, List.getD_cons_zero, List.getD_cons_succ]), (by simp only [upd_same, upd_ne, ne_eq, Nat.reduceEqDiff, not_false_eq_true, frame0, List.getD_cons_zero, List.getD_cons_succ]), (by simp only [upd_same, upd_ne, ne_eq, Nat.reduceEqDiff, not_false_eq_true, frame0, List.getD_cons_zero, List.getD_cons_succ]), hC2 _ _ (Nat.le_refl _) hC, by rw [lostL_succ]; exact hO2⟩ (by show _ - (i + 1) < _; omega)
  · obtain rfl : i = n := by omega
    simp only [n12, r12, h0, h1, h5, h6, hlt, SB, Nat.reduceLT, callee, aOp, ne_eq, Nat.reduceEqDiff, aBin, aUn, if_true, if_false, reduceCtorEq, frame0, place, notTuple, Nat.reduceAdd, Nat.reduceLeDiff, resVal, dite_true, dite_false, Int.reduceEq, Int.reduceLT, Int.reduceLE]
    exact hQ _ _ _ hC.app (hO.app _)

/-- A disk, as it lies. -/
theorem refCrash_ok {mp : Bool} {lim lc k1 k2 ln : Nat} {ps pp pl : Option Addr} {safe : List Sec} {pend : List Wr} {lost : List Bool} {H : Heap} {Q : Value → Heap → Prop} (hS : Sl H encX 32 ps safe) (hP : Sl H encW 33 pp pend) (hL : Sl H encB 1 pl lost) (hl : lim ≤ H.length)
    (hn1 : safe.length < 2 ^ 30) (hn2 : pend.length < 2 ^ 60) (hn3 : lost.length < 2 ^ 60) (hln : ln = lost.length)
    (hQ : ∀ p cap H', Chg [] H H' → Sl H' encX 32 p (crashed lost pend safe) → Q (.agg #[.slice p safe.length cap, .slice none 0 0]) H') :
    CallR E false lim 16 [.agg #[.slice ps safe.length k1, .slice pp pend.length k2], .slice pl ln lc] H Q := by
  subst hln
  refine runs (by decide) e16 rfl ?_
  rw [b16, c16]
  have key : ∀ (o S cap : Nat) (fr : Nat → Value) (X : Heap), fr 1 = .slice pl lost.length lc → fr 2 = .pointer (some ⟨H.length, 0, none⟩) → fr 4 = .pointer (some ⟨H.length + 1, 0, none⟩) → fr 5 = .pointer (some ⟨o, 0, none⟩) → fr 6 = .int .i64 0 →
      hget (H ++ X) H.length = .cells false [.slice ps safe.length k1, .slice pp pend.length k2] → hget (H ++ X) (H.length + 1) = .cells false [.slice none 0 0, .slice none 0 0] → H.length + 1 < o → hget (H ++ X) o = .cells false [.slice (some ⟨S, 0, none⟩) safe.length cap, .slice none 0 0] →
      (safe ≠ [] → hget (H ++ X) S = .cells false (safe.flatMap encX)) → H.length + 1 < S → S ≠ o →
      Ret E a16 lim [.code (.loop l16_1), .inBlock 0, .code ((ACode.ops [i 68 (.loadN 2 (t 5)), ⟨none, none, .store 2 (t 4) (t 68), none, []⟩]).seq .ret)] fr (H ++ X) Q := by
    intro o S cap fr X f1 f2 f4 f5 f6 x0 x1 ho xo xS hS1 hSo
    refine Ret_rounds (fun s : Nat × List Sec => pend.length - s.1) (fun s fr G => s.1 ≤ pend.length ∧ fr 1 = .slice pl lost.length lc ∧ fr 2 = .pointer (some ⟨H.length, 0, none⟩) ∧ fr 4 = .pointer (some ⟨H.length + 1, 0, none⟩) ∧ fr 5 = .pointer (some ⟨o, 0, none⟩) ∧ fr 6 = .int .i64 (s.1 : Int) ∧
      Chg [S] (H ++ X) G ∧ s.2.length = safe.length ∧ (safe ≠ [] → hget G S = .cells false (s.2.flatMap encX)) ∧ crashed lost pend safe = crashGo lost s.1 (pend.drop s.1) s.2) (0, safe) ⟨Nat.zero_le _, f1, f2, f4, f5, f6, Chg.refl, rfl, xS, rfl⟩ ?_
    rintro ⟨j, cur⟩ fr G ⟨hi, g1, g2, g4, g5, g6, hC, hcl, hcur, ha⟩ hN
    simp only at hi g6 hcl hcur ha
    rw [Ret_code l16_1.eq_1]
    refine Ret_pad ?_
    have y0 := fun Y => (Ext.refl.app (X := Y)).cells (hC.cells x0 (by simp; omega))
    have y1 := fun Y => (Ext.refl.app (X := Y)).cells (hC.cells x1 (by simp; omega))
    have yo := fun Y => (Ext.refl.app (X := Y)).cells (hC.cells xo (by simp; omega))
    have hGl := hC.len
    simp only [List.length_append] at hGl
    have hol := hget_alive (hC.cells xo (by simp; omega))
    have hlG : lim ≤ G.length := by omega
    by_cases hlt : j < pend.length
    · have hPG := hC.sl (hP.app X) fun a e h => by simp; have := (e ▸ hP).lt h; omega
      have hLG := hC.sl (hL.app X) fun a e h => by simp; have := (e ▸ hL).lt h; omega
      have hlds := fun X (h : 1 + 32 ≤ 33) => (hPG.app X).loadSub encW_len hlt h
      have hld0 := fun X => (hPG.app X).loadCell encW_len hlt (show 0 < 33 by decide)
      have hidx := fun c (k : IntKind) (H1 : Heap) => hPG.idx (c := c) (k := k) (H1 := H1) hlt
      have hw1 : IntKind.i64.wrap ((j : Int) + 1) = ((j + 1 : Nat) : Int) := wrap_nat (by omega)
      have hlidx := fun (h : j < lost.length) c (k : IntKind) (H1 : Heap) => hLG.idx (c := c) (k := k) (H1 := H1) h
      have hlld := fun (h : j < lost.length) X => (hLG.app X).loadCell0 encB_len h (by decide)
      have next : ∀ (cur' : List Sec) (G' X' : Heap) (fr' : Nat → Value), cur' = (if hasA cur.length (gt pend j).pos && !lost.getD j false then cur.set (gt pend j).pos.toNat (gt pend j).data else cur) → fr' 1 = .slice pl lost.length lc → fr' 2 = .pointer (some ⟨H.length, 0, none⟩) → fr' 4 = .pointer (some ⟨H.length + 1, 0, none⟩) → fr' 5 = .pointer (some ⟨o, 0, none⟩) → fr' 6 = .int .i64 ((j + 1 : Nat) : Int) →
          Mut G G' S → (safe ≠ [] → hget G' S = .cells false (cur'.flatMap encX)) → Ret E a16 lim [.inLoop l16_1, .inBlock 0, .code ((ACode.ops [i 68 (.loadN 2 (t 5)), ⟨none, none, .store 2 (t 4) (t 68), none, []⟩]).seq .ret)] fr' (G' ++ X') Q := by
        intro cur' G' X' fr' hc' g1 g2 g4 g5 g6 hm hg
        refine hN (j + 1, cur') _ _ ⟨by show j + 1 ≤ _; omega, g1, g2, g4, g5, g6, (hC.mut hm (.inl (by simp))).app, ?_, fun h => (Ext.refl.app (X := X')).cells (hg h), ?_⟩ (by show _ - (j + 1) < _; omega)
        · show cur'.length = _
          rw [hc']; split <;> simp [hcl]
        · show _ = crashGo _ (j + 1) _ cur'
          rw [ha, crashGo_drop hlt, hc']
      have e0 := encW_0 (w := gt pend j)
      have eD := encW_data (w := gt pend j)
      cases hh : hasA safe.length (gt pend j).pos with
      | false =>
        have hh' : 0 ≤ (gt pend j).pos → ¬ (gt pend j).pos < (safe.length : Int) := by simpa [hasA] using hh
        by_cases hil : j < lost.length
        · have hgl : gt lost j = lost.getD j false := rfl
          cases hgn : lost.getD j false
          · simp only [n16, r16, g1, g2, g4, g5, g6, y0, y1, yo, hlt, hidx, hld0, hlds, e0, eD, hw1, hlG, encB, encX_len, hil, hlidx hil, hlld hil, hgl, hgn, SB, Nat.reduceLT, callee, aOp, ne_eq, Nat.reduceEqDiff, aBin, aUn, if_true, if_false, reduceCtorEq, frame0, place, notTuple, Nat.reduceAdd, Nat.reduceLeDiff, resVal, dite_true, dite_false, Int.reduceEq, Int.reduceLT, Int.reduceLE]
            repeat' ((first | refine wantK_dec (fun hw => ?_) (fun hw => ?_) | refine condK_dec (fun hw => ?_) (fun hw => ?_) | refine wantK_any (fun hw => ?_) (fun hw => ?_) | refine condK_any (fun hw => ?_) (fun hw => ?_)) <;> (try simp only [hw, n16, r16, g1, g2, g4, g5, g6, y0, y1, yo, hlt, hidx, hld0, hlds, e0, eD, hw1, hlG, encB, encX_len, hh', SB, Nat.reduceLT, callee, aOp, ne_eq, Nat.reduceEqDiff, aBin, aUn, if_true, if_false, reduceCtorEq, frame0, place, notTuple, Nat.reduceAdd, Nat.reduceLeDiff, resVal, dite_true, dite_false, Int.reduceEq, Int.reduceLT, Int.reduceLE]))
            all_goals exact next cur G _ _ (by rw [hcl, hh]; rfl) (by simp only [g1, upd_same, upd_ne, ne_eq, Nat.reduceEqDiff, not_false_eq_true, frame0, List.getD_cons_zero, List.getD_cons_succ]) (by simp only [g2, upd_same, upd_ne, ne_eq, Nat.reduceEqDiff, not_false_eq_true, frame0, List.getD_cons_zero, List.getD_cons_succ]) (by simp only [g4, upd_same, upd_ne, ne_eq, Nat.reduceEqDiff, not_false_eq_true, frame0, List.getD_cons_zero, List.getD_cons_succ]) (by simp only [g5, upd_same, upd_ne, ne_eq, Nat.reduceEqDiff, not_false_eq_true, frame0, List.getD_cons_zero, List.getD_cons_succ]) (by simp only [upd_same, upd_ne, ne_eq, Nat.reduceEqDiff, not_false_eq_true, frame0, List.getD_cons_zero, List.getD_cons_succ]) ⟨rfl, fun _ _ => rfl⟩ hcur
          · simp only [n16, r16, g1, g2, g4, g5, g6, y0, y1, yo, hlt, hidx, hld0, hlds, e0, eD, hw1, hlG, encB, encX_len, hil, hlidx hil, hlld hil, hgl, hgn, SB, Nat.reduceLT, callee, aOp, ne_eq, Nat.reduceEqDiff, aBin, aUn, if_true, if_false, reduceCtorEq, frame0, place, notTuple, Nat.reduceAdd, Nat.reduceLeDiff, resVal, dite_true, dite_false, Int.reduceEq, Int.reduceLT, Int.reduceLE]
            exact next cur G _ _ (by rw [hcl, hh]; rfl) (by simp only [g1, upd_same, upd_ne, ne_eq, Nat.reduceEqDiff, not_false_eq_true, frame0, List.getD_cons_zero, List.getD_cons_succ]) (by simp only [g2, upd_same, upd_ne, ne_eq, Nat.reduceEqDiff, not_false_eq_true, frame0, List.getD_cons_zero, List.getD_cons_succ]) (by simp only [g4, upd_same, upd_ne, ne_eq, Nat.reduceEqDiff, not_false_eq_true, frame0, List.getD_cons_zero, List.getD_cons_succ]) (by simp only [g5, upd_same, upd_ne, ne_eq, Nat.reduceEqDiff, not_false_eq_true, frame0, List.getD_cons_zero, List.getD_cons_succ]) (by simp only [upd_same, upd_ne, ne_eq, Nat.reduceEqDiff, not_false_eq_true, frame0, List.getD_cons_zero, List.getD_cons_succ]) ⟨rfl, fun _ _ => rfl⟩ hcur
        · simp only [n16, r16, g1, g2, g4, g5, g6, y0, y1, yo, hlt, hidx, hld0, hlds, e0, eD, hw1, hlG, encB, encX_len, hil, SB, Nat.reduceLT, callee, aOp, ne_eq, Nat.reduceEqDiff, aBin, aUn, if_true, if_false, reduceCtorEq, frame0, place, notTuple, Nat.reduceAdd, Nat.reduceLeDiff, resVal, dite_true, dite_false, Int.reduceEq, Int.reduceLT, Int.reduceLE]
          repeat' ((first | refine wantK_dec (fun hw => ?_) (fun hw => ?_) | refine condK_dec (fun hw => ?_) (fun hw => ?_) | refine wantK_any (fun hw => ?_) (fun hw => ?_) | refine condK_any (fun hw => ?_) (fun hw => ?_)) <;> (try simp only [hw, n16, r16, g1, g2, g4, g5, g6, y0, y1, yo, hlt, hidx, hld0, hlds, e0, eD, hw1, hlG, encB, encX_len, hh', SB, Nat.reduceLT, callee, aOp, ne_eq, Nat.reduceEqDiff, aBin, aUn, if_true, if_false, reduceCtorEq, frame0, place, notTuple, Nat.reduceAdd, Nat.reduceLeDiff, resVal, dite_true, dite_false, Int.reduceEq, Int.reduceLT, Int.reduceLE]))
          all_goals exact next cur G _ _ (by rw [hcl, hh]; rfl) (by simp only [g1, upd_same, upd_ne, ne_eq, Nat.reduceEqDiff, not_false_eq_true, frame0, List.getD_cons_zero, List.getD_cons_succ]) (by simp only [g2, upd_same, upd_ne, ne_eq, Nat.reduceEqDiff, not_false_eq_true, frame0, List.getD_cons_zero, List.getD_cons_succ]) (by simp only [g4, upd_same, upd_ne, ne_eq, Nat.reduceEqDiff, not_false_eq_true, frame0, List.getD_cons_zero, List.getD_cons_succ]) (by simp only [g5, upd_same, upd_ne, ne_eq, Nat.reduceEqDiff, not_false_eq_true, frame0, List.getD_cons_zero, List.getD_cons_succ]) (by simp only [upd_same, upd_ne, ne_eq, Nat.reduceEqDiff, not_false_eq_true, frame0, List.getD_cons_zero, List.getD_cons_succ]) ⟨rfl, fun _ _ => rfl⟩ hcur
      | true =>
        obtain ⟨hp0, hp1⟩ : 0 ≤ (gt pend j).pos ∧ (gt pend j).pos < (safe.length : Int) := by simpa [hasA] using hh
        obtain ⟨q, hq, hqs⟩ : ∃ q : Nat, (gt pend j).pos = (q : Int) ∧ q < safe.length := ⟨(gt pend j).pos.toNat, by omega, by omega⟩
        have hsn : safe ≠ [] := by rintro rfl; simp at hqs
        have hsi : ∀ H1, idxK 32 (.slice (some ⟨S, 0, none⟩) safe.length cap) (.int .i64 (gt pend j).pos) H1 = some (.pointer (some (elt (some ⟨S, 0, none⟩) 32 q)), H1) := fun H1 => by
          rw [hq]; exact idxK_nat hqs
        obtain ⟨G', hst, hG', hm⟩ := store_mut (lim := lim) (e := 32) encX_len rfl (hcur hsn) (by omega) (show q < cur.length by rw [hcl]; exact hqs) (gt pend j).data
        by_cases hil : j < lost.length
        · have hgl : gt lost j = lost.getD j false := rfl
          cases hgn : lost.getD j false
          · simp only [n16, r16, g1, g2, g4, g5, g6, y0, y1, yo, hlt, hidx, hld0, hlds, e0, eD, hw1, hlG, encB, encX_len, hil, hlidx hil, hlld hil, hgl, hgn, hp0, hp1, hsi, hst, SB, Nat.reduceLT, callee, aOp, ne_eq, Nat.reduceEqDiff, aBin, aUn, if_true, if_false, reduceCtorEq, frame0, place, notTuple, Nat.reduceAdd, Nat.reduceLeDiff, resVal, dite_true, dite_false, Int.reduceEq, Int.reduceLT, Int.reduceLE]
            exact next _ G' _ _ (by rw [hcl, hh, hgn]; simp [hq]) (by simp only [g1, upd_same, upd_ne, ne_eq, Nat.reduceEqDiff, not_false_eq_true, frame0, List.getD_cons_zero, List.getD_cons_succ]) (by simp only [g2, upd_same, upd_ne, ne_eq, Nat.reduceEqDiff, not_false_eq_true, frame0, List.getD_cons_zero, List.getD_cons_succ]) (by simp only [g4, upd_same, upd_ne, ne_eq, Nat.reduceEqDiff, not_false_eq_true, frame0, List.getD_cons_zero, List.getD_cons_succ]) (by simp only [g5, upd_same, upd_ne, ne_eq, Nat.reduceEqDiff, not_false_eq_true, frame0, List.getD_cons_zero, List.getD_cons_succ]) (by simp only [upd_same, upd_ne, ne_eq, Nat.reduceEqDiff, not_false_eq_true, frame0, List.getD_cons_zero, List.getD_cons_succ]) hm fun _ => hG'
          · simp only [n16, r16, g1, g2, g4, g5, g6, y0, y1, yo, hlt, hidx, hld0, hlds, e0, eD, hw1, hlG, encB, encX_len, hil, hlidx hil, hlld hil, hgl, hgn, SB, Nat.reduceLT, callee, aOp, ne_eq, Nat.reduceEqDiff, aBin, aUn, if_true, if_false, reduceCtorEq, frame0, place, notTuple, Nat.reduceAdd, Nat.reduceLeDiff, resVal, dite_true, dite_false, Int.reduceEq, Int.reduceLT, Int.reduceLE]
            exact next cur G _ _ (by rw [hcl, hh, hgn]; rfl) (by simp only [g1, upd_same, upd_ne, ne_eq, Nat.reduceEqDiff, not_false_eq_true, frame0, List.getD_cons_zero, List.getD_cons_succ]) (by simp only [g2, upd_same, upd_ne, ne_eq, Nat.reduceEqDiff, not_false_eq_true, frame0, List.getD_cons_zero, List.getD_cons_succ]) (by simp only [g4, upd_same, upd_ne, ne_eq, Nat.reduceEqDiff, not_false_eq_true, frame0, List.getD_cons_zero, List.getD_cons_succ]) (by simp only [g5, upd_same, upd_ne, ne_eq, Nat.reduceEqDiff, not_false_eq_true, frame0, List.getD_cons_zero, List.getD_cons_succ]) (by simp only [upd_same, upd_ne, ne_eq, Nat.reduceEqDiff, not_false_eq_true, frame0, List.getD_cons_zero, List.getD_cons_succ]) ⟨rfl, fun _ _ => rfl⟩ hcur
        · simp only [n16, r16, g1, g2, g4, g5, g6, y0, y1, yo, hlt, hidx, hld0, hlds, e0, eD, hw1, hlG, encB, encX_len, hil, hp0, hp1, hsi, hst, SB, Nat.reduceLT, callee, aOp, ne_eq, Nat.reduceEqDiff, aBin, aUn, if_true, if_false, reduceCtorEq, frame0, place, notTuple, Nat.reduceAdd, Nat.reduceLeDiff, resVal, dite_true, dite_false, Int.reduceEq, Int.reduceLT, Int.reduceLE]
          exact next _ G' _ _ (by rw [hcl, hh, show lost.getD j false = false by rw [List.getD_eq_getElem?_getD, List.getElem?_eq_none (by omega)]; rfl]; simp [hq]) (by simp only [g1, upd_same, upd_ne, ne_eq, Nat.reduceEqDiff, not_false_eq_true, frame0, List.getD_cons_zero, List.getD_cons_succ]) (by simp only [g2, upd_same, upd_ne, ne_eq, Nat.reduceEqDiff, not_false_eq_true, frame0, List.getD_cons_zero, List.getD_cons_succ]) (by simp only [g4, upd_same, upd_ne, ne_eq, Nat.reduceEqDiff, not_false_eq_true, frame0, List.getD_cons_zero, List.getD_cons_succ]) (by simp only [g5, upd_same, upd_ne, ne_eq, Nat.reduceEqDiff, not_false_eq_true, frame0, List.getD_cons_zero, List.getD_cons_succ]) (by simp only [upd_same, upd_ne, ne_eq, Nat.reduceEqDiff, not_false_eq_true, frame0, List.getD_cons_zero, List.getD_cons_succ]) hm fun _ => hG'
    · obtain rfl : j = pend.length := by omega
      obtain ⟨G', hset, hGD, hm⟩ := mut_set (show H.length + 1 < G.length by omega) (.cells false [.slice (some ⟨S, 0, none⟩) safe.length cap, .slice none 0 0])
      have hz := fun Y => (Ext.refl.app (X := Y)).cells hGD
      simp only [n16, r16, g1, g2, g4, g5, g6, y0, y1, yo, hlt, hset, show lim ≤ H.length + 1 by omega, hz, SB, Nat.reduceLT, callee, aOp, ne_eq, Nat.reduceEqDiff, aBin, aUn, if_true, if_false, reduceCtorEq, frame0, place, notTuple, Nat.reduceAdd, Nat.reduceLeDiff, resVal, dite_true, dite_false, Int.reduceEq, Int.reduceLT, Int.reduceLE]
      refine hQ _ _ _ (((hC.pre.mono (B := []) fun q hq h => ?_).mut hm (.inr (by omega))).app) (Sl.app ?_ _)
      · simp at h; omega
      · rw [ha, List.drop_length, crashGo]
        by_cases hne : safe = []
        · subst hne
          have : cur = [] := List.length_eq_zero_iff.1 hcl
          subst this
          exact ⟨rfl, fun h => absurd rfl h⟩
        · exact Sl.lit encX_len (by rw [hm.cells (hcur hne) (by omega)]; rfl) (by rw [hm.cells (hcur hne) (by omega)]; rfl)
  by_cases hne : safe = []
  · subst hne
    simp only [n16, r16, append_new0, hl, SB, Nat.reduceLT, callee, aOp, ne_eq, Nat.reduceEqDiff, aBin, aUn, if_true, if_false, reduceCtorEq, frame0, place, notTuple, Nat.reduceAdd, Nat.reduceLeDiff, resVal, dite_true, dite_false, Int.reduceEq, Int.reduceLT, Int.reduceLE]
    refine key (H.length + 3) (H.length + 2) _ _ _ (by simp only [upd_same, upd_ne, ne_eq, Nat.reduceEqDiff, not_false_eq_true, frame0, List.getD_cons_zero, List.getD_cons_succ]) (by simp only [upd_same, upd_ne, ne_eq, Nat.reduceEqDiff, not_false_eq_true, frame0, List.getD_cons_zero, List.getD_cons_succ]) (by simp only [upd_same, upd_ne, ne_eq, Nat.reduceEqDiff, not_false_eq_true, frame0, List.getD_cons_zero, List.getD_cons_succ]) (by simp only [upd_same, upd_ne, ne_eq, Nat.reduceEqDiff, not_false_eq_true, frame0, List.getD_cons_zero, List.getD_cons_succ]) (by simp only [upd_same, upd_ne, ne_eq, Nat.reduceEqDiff, not_false_eq_true, frame0, List.getD_cons_zero, List.getD_cons_succ]) (by rw [hget_new0]; rfl) (by rw [hget_new]; rfl) (by omega) (by rw [hget_new]; rfl) (fun h => absurd rfl h) (by omega) (by omega)
  · have happ := fun X (h : hget (H ++ X) (H.length + 2) = .cells false []) => append_newN (lim := lim) (b := H.length + 2) (bytes := 32) (c := k1) h (hS.app X) (by decide) (by unfold maxBytes; omega) (by omega) hne
    simp only [n16, r16, happ, hl, SB, Nat.reduceLT, callee, aOp, ne_eq, Nat.reduceEqDiff, aBin, aUn, if_true, if_false, reduceCtorEq, frame0, place, notTuple, Nat.reduceAdd, Nat.reduceLeDiff, resVal, dite_true, dite_false, Int.reduceEq, Int.reduceLT, Int.reduceLE]
    refine key (H.length + 4) (H.length + 3) _ _ _ (by simp only [upd_same, upd_ne, ne_eq, Nat.reduceEqDiff, not_false_eq_true, frame0, List.getD_cons_zero, List.getD_cons_succ]) (by simp only [upd_same, upd_ne, ne_eq, Nat.reduceEqDiff, not_false_eq_true, frame0, List.getD_cons_zero, List.getD_cons_succ]) (by simp only [upd_same, upd_ne, ne_eq, Nat.reduceEqDiff, not_false_eq_true, frame0, List.getD_cons_zero, List.getD_cons_succ]) (by simp only [upd_same, upd_ne, ne_eq, Nat.reduceEqDiff, not_false_eq_true, frame0, List.getD_cons_zero, List.getD_cons_succ]) (by simp only [upd_same, upd_ne, ne_eq, Nat.reduceEqDiff, not_false_eq_true, frame0, List.getD_cons_zero, List.getD_cons_succ]) (by rw [hget_new0]; rfl) (by rw [hget_new]; rfl) (by omega) (by rw [hget_new]; rfl) (fun _ => by rw [hget_new]; rfl) (by omega) (by omega)
end Go.Proofs.Ytdddehniepofmaa.Fn
namespace Go.Proofs.Ytdddehniepofmaa.Fn
open Go.AM Go.AM.Sym
set_option maxRecDepth 100000
set_option linter.unusedVariables false
set_option linter.unusedSimpArgs false
set_option maxHeartbeats 4000000

def sameDisk (a b : List Sec) (x y : List Wr) : Bool := decide (a = b ∧ x = y)
theorem Wr.ext_iff' {a b : Wr} : a = b ↔ a.pos = b.pos ∧ a.data = b.data := by
  cases a; cases b; simp
theorem same_ok {mp : Bool} {lim D k1 k2 k3 k4 : Nat} {ro : Bool} {sp pp sq pq : Option Addr} {a b : List Sec} {x y : List Wr} {H : Heap} {Q : Value → Heap → Prop}
    (hD : hget H D = .cells ro [.slice sp a.length k1, .slice pp x.length k2]) (ha : Sl H encX 32 sp a) (hx : Sl H encW 33 pp x) (hb : Sl H encX 32 sq b) (hy : Sl H encW 33 pq y)
    (n1 : a.length < 2 ^ 60) (n2 : x.length < 2 ^ 60) :
    CallR E mp lim 15 [.pointer (some ⟨D, 0, none⟩), .agg #[.slice sq b.length k3, .slice pq y.length k4]] H Q = Q (.bool (sameDisk a b x y)) H := by
  refine pc (by decide) e15 rfl rfl ?_
  rw [b15, c15]
  have hD' := fun X => (Ext.refl.app (X := X)).cells hD
  have no : ∀ (p : Prop), (p → ¬ (a = b ∧ x = y)) → p → sameDisk a b x y = false := fun p h hp => by simpa [sameDisk] using h hp
  simp only [n15, r15, hD', aEq, SB, Nat.reduceLT, callee, aOp, ne_eq, Nat.reduceEqDiff, aBin, aUn, if_true, if_false, reduceCtorEq, frame0, place, notTuple, Nat.reduceAdd, Nat.reduceLeDiff, resVal, dite_true, dite_false, Int.reduceEq, Int.reduceLT, Int.reduceLE]
  repeat' ((first | refine wantK_dec (fun hw => ?_) (fun hw => ?_) | refine condK_dec (fun hw => ?_) (fun hw => ?_) | refine wantK_any (fun hw => ?_) (fun hw => ?_) | refine condK_any (fun hw => ?_) (fun hw => ?_)) <;> (try simp only [hw, n15, r15, hD', aEq, SB, Nat.reduceLT, callee, aOp, ne_eq, Nat.reduceEqDiff, aBin, aUn, if_true, if_false, reduceCtorEq, frame0, place, notTuple, Nat.reduceAdd, Nat.reduceLeDiff, resVal, dite_true, dite_false, Int.reduceEq, Int.reduceLT, Int.reduceLE]))
  · exact congrArg Value.bool (no _ (fun h1 h2 => h1 (by rw [h2.1])) hw).symm
  · exact congrArg Value.bool (no _ (fun h1 h2 => h1 (by rw [h2.2])) hw).symm
  have hab : a.length = b.length := by omega
  have hxy : x.length = y.length := by omega
  refine Ret_rounds (fun i => a.length - i) (fun i fr G => i ≤ a.length ∧ fr 0 = .pointer (some ⟨D, 0, none⟩) ∧ fr 3 = .pointer (some ⟨H.length, 0, none⟩) ∧ fr 35 = .int .i64 (a.length : Int) ∧ fr 36 = .int .i64 (i : Int) ∧ Ext H G ∧ hget G H.length = .cells false [.slice sq b.length k3, .slice pq y.length k4] ∧ ∀ j, j < i → gt a j = gt b j) 0
    ⟨Nat.zero_le _, (by simp only [upd_same, upd_ne, ne_eq, Nat.reduceEqDiff, not_false_eq_true, frame0, List.getD_cons_zero, List.getD_cons_succ]), (by simp only [upd_same, upd_ne, ne_eq, Nat.reduceEqDiff, not_false_eq_true, frame0, List.getD_cons_zero, List.getD_cons_succ]), (by simp only [upd_same, upd_ne, ne_eq, Nat.reduceEqDiff, not_false_eq_true, frame0, List.getD_cons_zero, List.getD_cons_succ]), by rfl, Ext.refl.app, by rw [hget_new0]; rfl, fun j hj => by omega⟩ ?_
  intro i fr G ⟨hi, h0, h3, h35, h36, hE, hz, hall⟩ hN
  rw [Ret_code l15_2.eq_1]
  refine Ret_pad ?_
  have hz' := fun X => (Ext.refl.app (X := X)).cells hz
  have hDG := fun X => (Ext.refl.app (X := X)).cells (hE.cells hD)
  by_cases hlt : i < a.length
  · have hla := fun X => ((hE.sl ha).app X).loadCells encX_len hlt
    have hia := fun c (k : IntKind) (H1 : Heap) => (hE.sl ha).idx (c := c) (k := k) (H1 := H1) hlt
    have hlb := fun X => ((hE.sl hb).app X).loadCells encX_len (hab ▸ hlt)
    have hib := fun c (k : IntKind) (H1 : Heap) => (hE.sl hb).idx (c := c) (k := k) (H1 := H1) (hab ▸ hlt)
    have hw1 : IntKind.i64.wrap ((i : Int) + 1) = ((i + 1 : Nat) : Int) := wrap_nat (by omega)
    simp only [n15, r15, h0, h3, h35, h36, hz', hDG, hlt, hla, hia, hlb, hib, hw1, eqX, SB, Nat.reduceLT, callee, aOp, ne_eq, Nat.reduceEqDiff, aBin, aUn, if_true, if_false, reduceCtorEq, frame0, place, notTuple, Nat.reduceAdd, Nat.reduceLeDiff, resVal, dite_true, dite_false, Int.reduceEq, Int.reduceLT, Int.reduceLE]
    by_cases he : gt a i = gt b i
    · simp only [n15, r15, h0, h3, h35, h36, hz', hDG, hlt, hw1, he, decide_true, SB, Nat.reduceLT, callee, aOp, ne_eq, Nat.reduceEqDiff, aBin, aUn, if_true, if_false, reduceCtorEq, frame0, place, notTuple, Nat.reduceAdd, Nat.reduceLeDiff, resVal, dite_true, dite_false, Int.reduceEq, Int.reduceLT, Int.reduceLE]
      exact hN (i + 1) _ _ ⟨by omega, (by simp only [h0, upd_same, upd_ne, ne_eq, Nat.reduceEqDiff, not_false_eq_true, frame0, List.getD_cons_zero, List.getD_cons_succ]), (by simp only [h3, upd_same, upd_ne, ne_eq, Nat.reduceEqDiff, not_false_eq_true, frame0, List.getD_cons_zero, List.getD_cons_succ]), (by simp only [h35, upd_same, upd_ne, ne_eq, Nat.reduceEqDiff, not_false_eq_true, frame0, List.getD_cons_zero, List.getD_cons_succ]), (by simp only [upd_same, upd_ne, ne_eq, Nat.reduceEqDiff, not_false_eq_true, frame0, List.getD_cons_zero, List.getD_cons_succ]), hE.app, hz' _, fun j hj => by
        rcases Nat.lt_or_ge j i with h | h
        · exact hall j h
        · have : j = i := by omega
          subst this; exact he⟩ (by omega)
    · simp only [n15, r15, h0, h3, h35, h36, hz', hDG, hlt, hw1, he, decide_false, SB, Nat.reduceLT, callee, aOp, ne_eq, Nat.reduceEqDiff, aBin, aUn, if_true, if_false, reduceCtorEq, frame0, place, notTuple, Nat.reduceAdd, Nat.reduceLeDiff, resVal, dite_true, dite_false, Int.reduceEq, Int.reduceLT, Int.reduceLE]
      exact congrArg Value.bool (no _ (fun h1 h2 => h1 (by rw [h2.1])) he).symm
  obtain rfl : i = a.length := by omega
  have hsafe : a = b := gt_ext hab hall
  simp only [n15, r15, h0, h3, h35, h36, hz', hDG, hlt, SB, Nat.reduceLT, callee, aOp, ne_eq, Nat.reduceEqDiff, aBin, aUn, if_true, if_false, reduceCtorEq, frame0, place, notTuple, Nat.reduceAdd, Nat.reduceLeDiff, resVal, dite_true, dite_false, Int.reduceEq, Int.reduceLT, Int.reduceLE]
  have hE1 := hE
  clear hN hz' hDG hall
  refine Ret_rounds (fun i => x.length - i) (fun i fr G => i ≤ x.length ∧ fr 0 = .pointer (some ⟨D, 0, none⟩) ∧ fr 3 = .pointer (some ⟨H.length, 0, none⟩) ∧ fr 57 = .int .i64 (x.length : Int) ∧ fr 58 = .int .i64 (i : Int) ∧ Ext H G ∧ hget G H.length = .cells false [.slice sq b.length k3, .slice pq y.length k4] ∧ ∀ j, j < i → gt x j = gt y j) 0
    ⟨Nat.zero_le _, (by simp only [h0, upd_same, upd_ne, ne_eq, Nat.reduceEqDiff, not_false_eq_true, frame0, List.getD_cons_zero, List.getD_cons_succ]), (by simp only [h3, upd_same, upd_ne, ne_eq, Nat.reduceEqDiff, not_false_eq_true, frame0, List.getD_cons_zero, List.getD_cons_succ]), (by simp only [upd_same, upd_ne, ne_eq, Nat.reduceEqDiff, not_false_eq_true, frame0, List.getD_cons_zero, List.getD_cons_succ]), by rfl, hE1.app, (Ext.refl.app).cells hz, fun j hj => by omega⟩ ?_
  clear h0 h3 h35 h36 hE hz hE1
  clear fr G
  intro i fr G ⟨hi, h0, h3, h35, h36, hE, hz, hall⟩ hN
  rw [Ret_code l15_1.eq_1]
  refine Ret_pad ?_
  have hz' := fun X => (Ext.refl.app (X := X)).cells hz
  have hDG := fun X => (Ext.refl.app (X := X)).cells (hE.cells hD)
  by_cases hlt : i < x.length
  · have hla := fun X (h : 1 + 32 ≤ 33) => ((hE.sl hx).app X).loadSub encW_len hlt h
    have hla0 := fun X => ((hE.sl hx).app X).loadCell encW_len hlt (show 0 < 33 by decide)
    have hia := fun c (k : IntKind) (H1 : Heap) => (hE.sl hx).idx (c := c) (k := k) (H1 := H1) hlt
    have hlb := fun X (h : 1 + 32 ≤ 33) => ((hE.sl hy).app X).loadSub encW_len (hxy ▸ hlt) h
    have hlb0 := fun X => ((hE.sl hy).app X).loadCell encW_len (hxy ▸ hlt) (show 0 < 33 by decide)
    have hib := fun c (k : IntKind) (H1 : Heap) => (hE.sl hy).idx (c := c) (k := k) (H1 := H1) (hxy ▸ hlt)
    have hw1 : IntKind.i64.wrap ((i : Int) + 1) = ((i + 1 : Nat) : Int) := wrap_nat (by omega)
    simp only [n15, r15, h0, h3, h35, h36, hz', hDG, hlt, hla, hla0, hia, hlb, hlb0, hib, hw1, eqX, encW_0, encW_data, SB, Nat.reduceLT, callee, aOp, ne_eq, Nat.reduceEqDiff, aBin, aUn, if_true, if_false, reduceCtorEq, frame0, place, notTuple, Nat.reduceAdd, Nat.reduceLeDiff, resVal, dite_true, dite_false, Int.reduceEq, Int.reduceLT, Int.reduceLE]
    by_cases hp : (gt x i).pos = (gt y i).pos
    · by_cases he : (gt x i).data = (gt y i).data
      · simp only [n15, r15, h0, h3, h35, h36, hz', hDG, hlt, hla, hla0, hia, hlb, hlb0, hib, hw1, eqX, encW_0, encW_data, hp, he, decide_true, SB, Nat.reduceLT, callee, aOp, ne_eq, Nat.reduceEqDiff, aBin, aUn, if_true, if_false, reduceCtorEq, frame0, place, notTuple, Nat.reduceAdd, Nat.reduceLeDiff, resVal, dite_true, dite_false, Int.reduceEq, Int.reduceLT, Int.reduceLE]
        exact hN (i + 1) _ _ ⟨by omega, (by simp only [h0, upd_same, upd_ne, ne_eq, Nat.reduceEqDiff, not_false_eq_true, frame0, List.getD_cons_zero, List.getD_cons_succ]), (by simp only [h3, upd_same, upd_ne, ne_eq, Nat.reduceEqDiff, not_false_eq_true, frame0, List.getD_cons_zero, List.getD_cons_succ]), (by simp only [h35, upd_same, upd_ne, ne_eq, Nat.reduceEqDiff, not_false_eq_true, frame0, List.getD_cons_zero, List.getD_cons_succ]), (by simp only [upd_same, upd_ne, ne_eq, Nat.reduceEqDiff, not_false_eq_true, frame0, List.getD_cons_zero, List.getD_cons_succ]), hE.app, hz' _, fun j hj => by
          rcases Nat.lt_or_ge j i with h | h
          · exact hall j h
          · have : j = i := by omega
            subst this; exact Wr.ext_iff'.2 ⟨hp, he⟩⟩ (by omega)
      · simp only [n15, r15, h0, h3, h35, h36, hz', hDG, hlt, hla, hla0, hia, hlb, hlb0, hib, hw1, eqX, encW_0, encW_data, hp, he, decide_true, decide_false, SB, Nat.reduceLT, callee, aOp, ne_eq, Nat.reduceEqDiff, aBin, aUn, if_true, if_false, reduceCtorEq, frame0, place, notTuple, Nat.reduceAdd, Nat.reduceLeDiff, resVal, dite_true, dite_false, Int.reduceEq, Int.reduceLT, Int.reduceLE]
        exact congrArg Value.bool (no _ (fun h1 h2 => h1 (by rw [h2.2])) he).symm
    · simp only [n15, r15, h0, h3, h35, h36, hz', hDG, hlt, hla, hla0, hia, hlb, hlb0, hib, hw1, eqX, encW_0, encW_data, hp, decide_true, decide_false, SB, Nat.reduceLT, callee, aOp, ne_eq, Nat.reduceEqDiff, aBin, aUn, if_true, if_false, reduceCtorEq, frame0, place, notTuple, Nat.reduceAdd, Nat.reduceLeDiff, resVal, dite_true, dite_false, Int.reduceEq, Int.reduceLT, Int.reduceLE]
      exact congrArg Value.bool (no _ (fun h1 h2 => h1 (by rw [h2.2])) hp).symm
  obtain rfl : i = x.length := by omega
  have hpend : x = y := gt_ext hxy hall
  simp only [n15, r15, h0, h3, h35, h36, hz', hDG, hlt, SB, Nat.reduceLT, callee, aOp, ne_eq, Nat.reduceEqDiff, aBin, aUn, if_true, if_false, reduceCtorEq, frame0, place, notTuple, Nat.reduceAdd, Nat.reduceLeDiff, resVal, dite_true, dite_false, Int.reduceEq, Int.reduceLT, Int.reduceLE]
  simp [sameDisk, hsafe, hpend]

theorem given_ok {lim k1 k2 : Nat} {sp pp : Option Addr} {a : List Sec} {x : List Wr} {H : Heap} {Q : Value → Heap → Prop}
    (ha : Sl H encX 32 sp a) (hx : Sl H encW 33 pp x) (n1 : a.length < 2 ^ 30) (n2 : x.length < 2 ^ 30) (hl : lim ≤ H.length)
    (hQ : ∀ p c1 q c2 H', Chg [] H H' → Sl H' encX 32 p a → Sl H' encW 33 q x → Q (.agg #[.slice p a.length c1, .slice q x.length c2]) H') :
    CallR E false lim 17 [.agg #[.slice sp a.length k1, .slice pp x.length k2]] H Q := by
  refine runs (by decide) e17 rfl ?_
  rw [b17, c17]
  simp only [n17, r17, SB, Nat.reduceLT, callee, aOp, ne_eq, Nat.reduceEqDiff, aBin, aUn, if_true, if_false, reduceCtorEq, frame0, place, notTuple, Nat.reduceAdd, Nat.reduceLeDiff, resVal, dite_true, dite_false, Int.reduceEq, Int.reduceLT, Int.reduceLE]
  refine Ret_rounds (fun s : Nat × Option Addr × Nat => a.length - s.1) (fun s fr G => s.1 ≤ a.length ∧ fr 1 = .pointer (some ⟨H.length, 0, none⟩) ∧ fr 2 = .pointer (some ⟨H.length + 1, 0, none⟩) ∧ fr 3 = .pointer (some ⟨H.length + 2, 0, none⟩) ∧ fr 9 = .slice sp a.length k1 ∧ fr 10 = .int .i64 (a.length : Int) ∧ fr 11 = .int .i64 (s.1 : Int) ∧
    H.length + 3 ≤ G.length ∧ Chg [] H G ∧ hget G H.length = .cells false [.slice sp a.length k1, .slice pp x.length k2] ∧ hget G (H.length + 1) = .cells false [.slice none 0 0, .slice none 0 0] ∧ hget G (H.length + 2) = .cells false [.slice s.2.1 s.1 s.2.2, .slice none 0 0] ∧ Own (H.length + 3) G encX 32 s.2.1 s.2.2 (a.take s.1)) (0, none, 0)
    ⟨Nat.zero_le _, (by simp only [upd_same, upd_ne, ne_eq, Nat.reduceEqDiff, not_false_eq_true, frame0, List.getD_cons_zero, List.getD_cons_succ]), (by simp only [upd_same, upd_ne, ne_eq, Nat.reduceEqDiff, not_false_eq_true, frame0, List.getD_cons_zero, List.getD_cons_succ]), (by simp only [upd_same, upd_ne, ne_eq, Nat.reduceEqDiff, not_false_eq_true, frame0, List.getD_cons_zero, List.getD_cons_succ]), (by simp only [upd_same, upd_ne, ne_eq, Nat.reduceEqDiff, not_false_eq_true, frame0, List.getD_cons_zero, List.getD_cons_succ]), (by simp only [upd_same, upd_ne, ne_eq, Nat.reduceEqDiff, not_false_eq_true, frame0, List.getD_cons_zero, List.getD_cons_succ]), by rfl, by simp, Chg.refl.app, by rw [hget_new0]; rfl, by rw [hget_new]; rfl, by rw [hget_new]; rfl, Own.nil⟩ ?_
  rintro ⟨j, p, cap⟩ fr G ⟨hi, h1, h2, h3, h9, h10, h11, hGl, hC, hz0, hz1, hz2, hO⟩ hN
  simp only at hi h11 hz2 hO
  rw [Ret_code l17_2.eq_1]
  refine Ret_pad ?_
  have z0 := fun X => (Ext.refl.app (X := X)).cells hz0
  have z1 := fun X => (Ext.refl.app (X := X)).cells hz1
  have z2 := fun X => (Ext.refl.app (X := X)).cells hz2
  have hlG : lim ≤ G.length := by omega
  by_cases hlt : j < a.length
  · have haG := hC.sl ha (by simp)
    have hld := fun X => (haG.app X).loadCells encX_len hlt
    have hidx := fun c (k : IntKind) (H1 : Heap) => haG.idx (c := c) (k := k) (H1 := H1) hlt
    have hw1 : IntKind.i64.wrap ((j : Int) + 1) = ((j + 1 : Nat) : Int) := wrap_nat (by omega)
    have htl : (a.take j).length = j := by simp; omega
    have hb := hO.step (lim' := lim) (bytes := 32) (by omega) encX_len (by decide) (gt a j) (by rw [htl]; unfold maxBytes; omega) (by rw [htl]; omega) hGl [.cells false (encX (gt a j)), .cells false (encX (gt a j))] (G.length + 1) 1 (by rw [hget_new]; rfl)
    rw [htl] at hb
    obtain ⟨G2, hp, hO2, hC2, hold, hlen2, _⟩ := hb
    have hne : ∀ (i : Nat), i < H.length + 3 → ∀ a', p = some a' → i ≠ a'.block := fun i hi' a' e => by have := (hO.block e).1; omega
    have w0 : hget (G2 ++ []) H.length = _ := (hold _ (by omega) (hne _ (by omega))).trans hz0
    have w1 : hget (G2 ++ []) (H.length + 1) = _ := (hold _ (by omega) (hne _ (by omega))).trans hz1
    have w2 : hget (G2 ++ []) (H.length + 2) = _ := (hold _ (by omega) (hne _ (by omega))).trans hz2
    obtain ⟨G3, hset, hG3, hm⟩ := mut_set (G := G2) (show H.length + 2 < G2.length by omega) (.cells false [.slice (some ⟨G.length + 2, 0, none⟩) (j + 1) (loose 32), .slice none 0 0])
    simp only [n17, r17, h1, h2, h3, h9, h10, h11, hlt, z0, z1, z2, hld, hidx, hw1, encX_len, hlG, hp, w2, hset, show lim ≤ H.length + 2 by omega, fillV_agg, SB, Nat.reduceLT, callee, aOp, ne_eq, Nat.reduceEqDiff, aBin, aUn, if_true, if_false, reduceCtorEq, frame0, place, notTuple, Nat.reduceAdd, Nat.reduceLeDiff, resVal, dite_true, dite_false, Int.reduceEq, Int.reduceLT, Int.reduceLE]
    refine hN (j + 1, some ⟨G.length + 2, 0, none⟩, loose 32) _ _ ⟨by show j + 1 ≤ _; omega, (by simp only [h1, upd_same, upd_ne, ne_eq, Nat.reduceEqDiff, not_false_eq_true, frame0, List.getD_cons_zero, List.getD_cons_succ]), (by simp only [h2, upd_same, upd_ne, ne_eq, Nat.reduceEqDiff, not_false_eq_true, frame0, List.getD_cons_zero, List.getD_cons_succ]), (by simp only [h3, upd_same, upd_ne, ne_eq, Nat.reduceEqDiff, not_false_eq_true, frame0, List.getD_cons_zero, List.getD_cons_succ]), (by simp only [h9, upd_same, upd_ne, ne_eq, Nat.reduceEqDiff, not_false_eq_true, frame0, List.getD_cons_zero, List.getD_cons_succ]), (by simp only [h10, upd_same, upd_ne, ne_eq, Nat.reduceEqDiff, not_false_eq_true, frame0, List.getD_cons_zero, List.getD_cons_succ]), (by simp only [upd_same, upd_ne, ne_eq, Nat.reduceEqDiff, not_false_eq_true, frame0, List.getD_cons_zero, List.getD_cons_succ]), ?_, ?_, ?_, ?_, ?_, ?_⟩ (by show _ - (j + 1) < _; omega)
    · simp [hm.len, hlen2]; omega
    · have := (hC2 [] H (by omega) hC)
      rw [List.append_nil] at this
      exact (this.mut hm (.inr (by omega))).app
    · exact (Ext.refl.app).cells (hm.cells (by rw [← List.append_nil G2]; exact w0) (by omega))
    · exact (Ext.refl.app).cells (hm.cells (by rw [← List.append_nil G2]; exact w1) (by omega))
    · exact (Ext.refl.app).cells hG3
    · rw [take_snoc hlt]
      rw [List.append_nil] at hO2
      exact (hO2.mut hm fun a' e => by cases e; simp; omega).app _
  obtain rfl : j = a.length := by omega
  rw [List.take_length] at hO
  simp only [n17, r17, h1, h2, h3, h9, h10, h11, hlt, z0, z1, z2, SB, Nat.reduceLT, callee, aOp, ne_eq, Nat.reduceEqDiff, aBin, aUn, if_true, if_false, reduceCtorEq, frame0, place, notTuple, Nat.reduceAdd, Nat.reduceLeDiff, resVal, dite_true, dite_false, Int.reduceEq, Int.reduceLT, Int.reduceLE]
  have hO1 := hO
  have hC1 := hC
  clear hN
  refine Ret_rounds (fun s : Nat × Option Addr × Nat => x.length - s.1) (fun s fr G' => s.1 ≤ x.length ∧ fr 2 = .pointer (some ⟨H.length + 1, 0, none⟩) ∧ fr 3 = .pointer (some ⟨H.length + 2, 0, none⟩) ∧ fr 23 = .slice pp x.length k2 ∧ fr 24 = .int .i64 (x.length : Int) ∧ fr 25 = .int .i64 (s.1 : Int) ∧
    G.length ≤ G'.length ∧ Chg [H.length + 2] G G' ∧ hget G' (H.length + 2) = .cells false [.slice p a.length cap, .slice s.2.1 s.1 s.2.2] ∧ Own G.length G' encW 33 s.2.1 s.2.2 (x.take s.1)) (0, none, 0)
    ⟨Nat.zero_le _, (by simp only [h2, upd_same, upd_ne, ne_eq, Nat.reduceEqDiff, not_false_eq_true, frame0, List.getD_cons_zero, List.getD_cons_succ]), (by simp only [h3, upd_same, upd_ne, ne_eq, Nat.reduceEqDiff, not_false_eq_true, frame0, List.getD_cons_zero, List.getD_cons_succ]), (by simp only [upd_same, upd_ne, ne_eq, Nat.reduceEqDiff, not_false_eq_true, frame0, List.getD_cons_zero, List.getD_cons_succ]), (by simp only [upd_same, upd_ne, ne_eq, Nat.reduceEqDiff, not_false_eq_true, frame0, List.getD_cons_zero, List.getD_cons_succ]), by rfl, by simp, Chg.refl.app, (Ext.refl.app).cells hz2, Own.nil⟩ ?_
  rintro ⟨j, q, cq⟩ fr' G' ⟨hi, g2, g3, g23, g24, g25, hGl', hC, hz2', hO⟩ hN
  simp only at hi g25 hz2' hO
  rw [Ret_code l17_1.eq_1]
  refine Ret_pad ?_
  have z1' := fun X => (Ext.refl.app (X := X)).cells (hC.cells hz1 (by simp))
  have z2' := fun X => (Ext.refl.app (X := X)).cells hz2'
  have hlG' : lim ≤ G'.length := by omega
  by_cases hlt : j < x.length
  · have hxG := (hC1.trans (Chg.refl)).sl hx (by simp)
    have hxG' := hC.sl hxG fun a' e hn => by
      simp
      have := (e ▸ hx).lt hn
      omega
    have hld := fun X => (hxG'.app X).loadCells encW_len hlt
    have hidx := fun c (k : IntKind) (H1 : Heap) => hxG'.idx (c := c) (k := k) (H1 := H1) hlt
    have hw1 : IntKind.i64.wrap ((j : Int) + 1) = ((j + 1 : Nat) : Int) := wrap_nat (by omega)
    have htl : (x.take j).length = j := by simp; omega
    have hb := hO.step (lim' := lim) (bytes := 40) (by omega) encW_len (by decide) (gt x j) (by rw [htl]; unfold maxBytes; omega) (by rw [htl]; omega) hGl' [.cells false (encW (gt x j)), .cells false (encW (gt x j))] (G'.length + 1) 1 (by rw [hget_new]; rfl)
    rw [htl] at hb
    obtain ⟨G2, hp, hO2, hC2, hold, hlen2, _⟩ := hb
    have w2 : hget (G2 ++ []) (H.length + 2) = _ := (hold _ (by omega) (fun a' e => by have := (hO.block e).1; omega)).trans hz2'
    obtain ⟨G3, hset, hG3, hm⟩ := mut_set (G := G2) (show H.length + 2 < G2.length by omega) (.cells false [.slice p a.length cap, .slice (some ⟨G'.length + 2, 0, none⟩) (j + 1) (loose 33)])
    have e2 : Value.int .i64 (gt x j).pos :: encX (gt x j).data = encW (gt x j) := rfl
    simp only [n17, r17, g2, g3, g23, g24, g25, hlt, z1', z2', hld, hidx, hw1, encX_len, encW_len, encW_0, encW_data, hlG', hp, w2, hset, show lim ≤ H.length + 2 by omega, fillV_agg, e2, SB, Nat.reduceLT, callee, aOp, ne_eq, Nat.reduceEqDiff, aBin, aUn, if_true, if_false, reduceCtorEq, frame0, place, notTuple, Nat.reduceAdd, Nat.reduceLeDiff, resVal, dite_true, dite_false, Int.reduceEq, Int.reduceLT, Int.reduceLE]
    refine hN (j + 1, some ⟨G'.length + 2, 0, none⟩, loose 33) _ _ ⟨by show j + 1 ≤ _; omega, (by simp only [g2, upd_same, upd_ne, ne_eq, Nat.reduceEqDiff, not_false_eq_true, frame0, List.getD_cons_zero, List.getD_cons_succ]), (by simp only [g3, upd_same, upd_ne, ne_eq, Nat.reduceEqDiff, not_false_eq_true, frame0, List.getD_cons_zero, List.getD_cons_succ]), (by simp only [g23, upd_same, upd_ne, ne_eq, Nat.reduceEqDiff, not_false_eq_true, frame0, List.getD_cons_zero, List.getD_cons_succ]), (by simp only [g24, upd_same, upd_ne, ne_eq, Nat.reduceEqDiff, not_false_eq_true, frame0, List.getD_cons_zero, List.getD_cons_succ]), (by simp only [upd_same, upd_ne, ne_eq, Nat.reduceEqDiff, not_false_eq_true, frame0, List.getD_cons_zero, List.getD_cons_succ]), ?_, ?_, ?_, ?_⟩ (by show _ - (j + 1) < _; omega)
    · simp [hm.len, hlen2]; omega
    · have := (hC2 [H.length + 2] G (by omega) hC)
      rw [List.append_nil] at this
      exact (this.mut hm (.inl (by simp))).app
    · exact (Ext.refl.app).cells hG3
    · rw [take_snoc hlt]
      rw [List.append_nil] at hO2
      exact (hO2.mut hm fun a' e => by cases e; simp; omega).app _
  obtain rfl : j = x.length := by omega
  rw [List.take_length] at hO
  obtain ⟨G3, hset, hG3, hm⟩ := mut_set (G := G') (show H.length + 1 < G'.length by omega) (.cells false [.slice p a.length cap, .slice q x.length cq])
  have hG3' := fun X => (Ext.refl.app (X := X)).cells hG3
  simp only [n17, r17, g2, g3, g23, g24, g25, hlt, z1', z2', hset, show lim ≤ H.length + 1 by omega, hG3', SB, Nat.reduceLT, callee, aOp, ne_eq, Nat.reduceEqDiff, aBin, aUn, if_true, if_false, reduceCtorEq, frame0, place, notTuple, Nat.reduceAdd, Nat.reduceLeDiff, resVal, dite_true, dite_false, Int.reduceEq, Int.reduceLT, Int.reduceLE]
  have hCH : Chg [] H G' := hC1.trans' hC fun j hj h => by simp at hj; omega
  refine hQ _ _ _ _ _ ((hCH.mut hm (.inr (by omega))).app) (Sl.app (hm.sl (hC.sl (hO1.sl encX_len) fun a' e hn => ?_) fun a' e hn => ?_) _) (Sl.app (hm.sl (hO.sl encW_len) fun a' e hn => ?_) _)
  · have := (hO1.block e).1; simp; omega
  · have := (hO1.block e).1; omega
  · have := (hO.block e).1; omega

theorem bools_eq {l : List Bool} {p q : Option Addr} {G : Heap} (hp : Sl G encB 1 p l) (hq : Sl G encB 1 q l) {i : Nat} (hi : i < l.length) (X : Heap) : AM.loadCell (G ++ X) (elt p 1 i) = some (.bool (gt l i)) ∧ AM.loadCell (G ++ X) (elt q 1 i) = some (.bool (gt l i)) :=
  ⟨(hp.app X).loadCell0 encB_len hi (by decide), (hq.app X).loadCell0 encB_len hi (by decide)⟩
def rest3 : ACode := tlC (tlC (tlC (tlC c3)))
theorem c3_cut : c3 = .seq (hdC c3) (.seq (hdC (tlC c3)) (.seq (hdC (tlC (tlC c3))) (.seq (hdC (tlC (tlC (tlC c3)))) rest3))) := rfl
/-- A disk of one's own, as it lies. -/
structure Lies (lim : Nat) (H : Heap) (D S P c1 c2 : Nat) (a : List Sec) (x : List Wr) : Prop where
  at_ : hget H D = .cells false [.slice (some ⟨S, 0, none⟩) a.length c1, .slice (some ⟨P, 0, none⟩) x.length c2]
  safe : a ≠ [] → hget H S = .cells false (a.flatMap encX)
  pend : x ≠ [] → hget H P = .cells false (x.flatMap encW)
  lD : lim ≤ D
  lS : lim ≤ S
  lP : lim ≤ P
  ltD : D < H.length
  ltS : S < H.length
  ltP : P < H.length
  SD : S ≠ D
  PS : P ≠ S
  PD : P ≠ D
theorem rest_ok {k1 k2 D1 S1 P1 d1 d2 D2 S2 P2 e1 e2 : Nat} {sp pp : Option Addr} {a : List Sec} {x : List Wr} {m : Int} {many : Nat} {H : Heap} {X : Heap} {fr : Nat → Value}
    (ha : Sl H encX 32 sp a) (hx : Sl H encW 33 pp x) (n1 : a.length < 2 ^ 30) (n2 : x.length < 2 ^ 30) (hm : many ≤ 255)
    (f1 : fr 1 = .int .u64 m) (f2 : fr 2 = .int .u8 (many : Int)) (f3 : fr 3 = .pointer (some ⟨H.length, 0, none⟩)) (f7 : fr 7 = .pointer (some ⟨D1, 0, none⟩)) (f8 : fr 8 = .pointer (some ⟨D2, 0, none⟩))
    (h3 : hget (H ++ X) H.length = .cells false [.slice sp a.length k1, .slice pp x.length k2]) (l1 : Lies (H.length + 1) (H ++ X) D1 S1 P1 d1 d2 a x) (l2 : Lies (H.length + 1) (H ++ X) D2 S2 P2 e1 e2 a x)
    (q : ∀ y ∈ [D2, S2, P2], y ∉ [D1, S1, P1]) :
    Ret E a3 H.length [.code rest3] fr (H ++ X) fun v _ => v = .bool true := by
  have ew : IntKind.i64.wrap (many : Int) = (many : Int) := wrap_id (by omega) (by omega)
  have hl0 : H.length ≤ (H ++ X).length := by simp
  show Ret E a3 H.length [.code (tlC (tlC (tlC (tlC c3))))] fr _ _
  simp only [c3, tlC]
  simp only [n3, r3, f1, f2, ew, SB, Nat.reduceLT, callee, aOp, ne_eq, Nat.reduceEqDiff, aBin, aUn, if_true, if_false, reduceCtorEq, frame0, place, notTuple, Nat.reduceAdd, Nat.reduceLeDiff, resVal, dite_true, dite_false, Int.reduceEq, Int.reduceLT, Int.reduceLE]
  refine lost_ok hl0 (by omega) fun pa ca G1 hC1 hO1 => ?_
  refine Ret_pad ?_
  simp only [n3, r3, f1, f2, ew, SB, Nat.reduceLT, callee, aOp, ne_eq, Nat.reduceEqDiff, aBin, aUn, if_true, if_false, reduceCtorEq, frame0, place, notTuple, Nat.reduceAdd, Nat.reduceLeDiff, resVal, dite_true, dite_false, Int.reduceEq, Int.reduceLT, Int.reduceLE]
  refine lost_ok (by have := hC1.len; simp; simp at this; omega) (by omega) fun pb cb G2 hC2 hO2 => ?_
  rw [List.append_nil] at hC2 hO2
  refine Ret_pad ?_
  simp only [n3, r3, f1, f2, f7, ew, SB, Nat.reduceLT, callee, aOp, ne_eq, Nat.reduceEqDiff, aBin, aUn, if_true, if_false, reduceCtorEq, frame0, place, notTuple, Nat.reduceAdd, Nat.reduceLeDiff, resVal, dite_true, dite_false, Int.reduceEq, Int.reduceLT, Int.reduceLE]
  have h3l := hget_alive h3
  simp only [List.length_append] at hC1 hC2 hl0 h3l
  have g1 : Chg [] (H ++ X) G1 := by simpa using hC1
  have g2 : Chg [] (H ++ X) G2 := g1.trans hC2
  have hlen := g2.len
  have hlen1 := g1.len
  have hlen2 := hC2.len
  simp only [List.length_append] at hlen hlen1
  obtain ⟨q1, q2, q3⟩ : (D2 ≠ D1 ∧ D2 ≠ S1 ∧ D2 ≠ P1) ∧ (S2 ≠ D1 ∧ S2 ≠ S1 ∧ S2 ≠ P1) ∧ (P2 ≠ D1 ∧ P2 ≠ S1 ∧ P2 ≠ P1) := by simpa using q
  have ll := lostL_len (m := m) (n := many)
  have hOa : Own G1.length G2 encB 1 pb cb (lostL m many) := hO2
  have sa : Sl G2 encB 1 pa (lostL m many) := hC2.sl (hO1.sl encB_len) (by simp)
  have sb := hO2.sl encB_len
  have hx2 : Sl G2 encW 33 (some ⟨P1, 0, none⟩) x := by
    by_cases h : x = []
    · subst h; exact ⟨rfl, fun h => absurd rfl h⟩
    · have := g2.cells (l1.pend h) (by simp)
      exact Sl.lit encW_len (by rw [this]; rfl) (by rw [this]; rfl)
  have ba : ∀ a', pa = some a' → (H ++ X).length ≤ a'.block := fun a' e => by simpa using (hO1.block e).1
  have bb : ∀ a', pb = some a' → G1.length ≤ a'.block := fun a' e => (hO2.block e).1
  have b1 := l1.ltD; have b2 := l1.ltS; have b3' := l1.ltP; have b4 := l2.ltD; have b5 := l2.ltS; have b6 := l2.ltP
  have b7 := l1.lD; have b8 := l1.lS; have b9 := l2.lD; have b10 := l2.lS; have b11 := l1.SD; have b12 := l1.PS; have b13' := l1.PD; have b14' := l2.SD; have b15' := l2.PS; have b16' := l2.PD
  have b17' := l2.lP; have b18 := l1.lP
  simp only [List.length_append] at b1 b2 b3' b4 b5 b6 ba
  refine Crash_ok (lost := lostL m many) (S := S1) (safe := a) (pend := x) (by rw [List.append_nil]; exact g2.cells l1.at_ (by simp)) (by omega) (fun h => ⟨rfl, by rw [List.append_nil]; exact g2.cells (l1.safe h) (by simp), by omega⟩) b11 (hx2.app _) (fun a' e h => by cases e; exact ⟨b12, b13'⟩) (sa.app _)
    (fun a' e h => by have := ba a' e; omega) (by omega) (by omega) (by omega) ll.symm fun H' c1 c2 c3' => ?_
  rw [List.append_nil] at c1
  refine Ret_pad ?_
  simp only [n3, r3, f1, f2, f8, ew, SB, Nat.reduceLT, callee, aOp, ne_eq, Nat.reduceEqDiff, aBin, aUn, if_true, if_false, reduceCtorEq, frame0, place, notTuple, Nat.reduceAdd, Nat.reduceLeDiff, resVal, dite_true, dite_false, Int.reduceEq, Int.reduceLT, Int.reduceLE]
  have u1 := c1.len
  have kL2 : Lies (H.length + 1) H' D2 S2 P2 e1 e2 a x := by
    refine ⟨c1.cells (g2.cells l2.at_ (by simp)) (by simp; omega), fun h => c1.cells (g2.cells (l2.safe h) (by simp)) (by simp; omega), fun h => c1.cells (g2.cells (l2.pend h) (by simp)) (by simp; omega), by omega, by omega, by omega, by omega, by omega, by omega, l2.SD, l2.PS, l2.PD⟩
  have hx3 : Sl H' encW 33 (some ⟨P2, 0, none⟩) x := by
    by_cases h : x = []
    · subst h; exact ⟨rfl, fun h => absurd rfl h⟩
    · exact Sl.lit encW_len (by rw [kL2.pend h]; rfl) (by rw [kL2.pend h]; rfl)
  refine Sync_ok (lim := H.length) (D := D2) (S := S2) (sp := some ⟨S2, 0, none⟩) (pp := some ⟨P2, 0, none⟩) (safe := a) (pend := x) (sc := e1) (pc' := e2) (by rw [List.append_nil]; exact kL2.at_) (by omega) (fun h => ⟨rfl, by rw [List.append_nil]; exact kL2.safe h, by omega⟩) kL2.SD (hx3.app _) (fun a' e h => by cases e; exact ⟨b15', b16'⟩) (by omega) (by omega) fun H2 d1 d2 d3 => ?_
  rw [List.append_nil] at d1
  refine Ret_pad ?_
  simp only [n3, r3, f1, f2, f8, ew, SB, Nat.reduceLT, callee, aOp, ne_eq, Nat.reduceEqDiff, aBin, aUn, if_true, if_false, reduceCtorEq, frame0, place, notTuple, Nat.reduceAdd, Nat.reduceLeDiff, resVal, dite_true, dite_false, Int.reduceEq, Int.reduceLT, Int.reduceLE]
  have u2 := d1.len
  have sa2 : Sl H2 encB 1 pa (lostL m many) := d1.sl (c1.sl sa fun a' e h => by have := ba a' e; simp; omega) fun a' e h => by have := ba a' e; simp; omega
  have sb2 : Sl H2 encB 1 pb (lostL m many) := d1.sl (c1.sl sb fun a' e h => by have := bb a' e; simp; omega) fun a' e h => by have := bb a' e; simp; omega
  clear sa sb
  refine Ret_rounds (fun j => many - j) (fun j fr' G => j ≤ many ∧ fr' 3 = .pointer (some ⟨H.length, 0, none⟩) ∧ fr' 7 = .pointer (some ⟨D1, 0, none⟩) ∧ fr' 8 = .pointer (some ⟨D2, 0, none⟩) ∧ fr' 9 = .slice pa many ca ∧ fr' 10 = .slice pb many cb ∧ fr' 54 = .int .i64 (many : Int) ∧ fr' 55 = .int .i64 (j : Int) ∧ Ext H2 G) 0 ⟨Nat.zero_le _, (by simp only [f3, upd_same, upd_ne, ne_eq, Nat.reduceEqDiff, not_false_eq_true, frame0, List.getD_cons_zero, List.getD_cons_succ]), (by simp only [f7, upd_same, upd_ne, ne_eq, Nat.reduceEqDiff, not_false_eq_true, frame0, List.getD_cons_zero, List.getD_cons_succ]), (by simp only [f8, upd_same, upd_ne, ne_eq, Nat.reduceEqDiff, not_false_eq_true, frame0, List.getD_cons_zero, List.getD_cons_succ]), (by simp only [upd_same, upd_ne, ne_eq, Nat.reduceEqDiff, not_false_eq_true, frame0, List.getD_cons_zero, List.getD_cons_succ]), (by simp only [upd_same, upd_ne, ne_eq, Nat.reduceEqDiff, not_false_eq_true, frame0, List.getD_cons_zero, List.getD_cons_succ]), (by simp only [upd_same, upd_ne, ne_eq, Nat.reduceEqDiff, not_false_eq_true, frame0, List.getD_cons_zero, List.getD_cons_succ]), by rfl, Ext.refl.app⟩ ?_
  clear f1 f2 f3 f7 f8 fr
  intro j fr G ⟨hj, f3, f7, f8, f9, f10, f54, f55, hE⟩ hN
  rw [Ret_code l3_1.eq_1]
  refine Ret_pad ?_
  have sa3 := hE.sl sa2
  have sb3 := hE.sl sb2
  by_cases hlt : j < many
  · have hlt' : j < (lostL m many).length := by rw [ll]; exact hlt
    have ld := bools_eq sa3 sb3 hlt'
    have ia := fun c (k : IntKind) (H1 : Heap) => sa3.idx (c := c) (k := k) (H1 := H1) hlt'
    have ib := fun c (k : IntKind) (H1 : Heap) => sb3.idx (c := c) (k := k) (H1 := H1) hlt'
    rw [ll] at ia ib
    have hw1 : IntKind.i64.wrap ((j : Int) + 1) = ((j + 1 : Nat) : Int) := wrap_nat (by omega)
    have hb : ∀ b : Bool, (b != b) = false := by decide
    have hb' : ∀ b : Bool, (b == b) = true := by decide
    simp only [n3, r3, f3, f7, f8, f9, f10, f54, f55, hlt, ia, ib, (ld _).1, (ld _).2, hw1, aEq, hb, hb', SB, Nat.reduceLT, callee, aOp, ne_eq, Nat.reduceEqDiff, aBin, aUn, if_true, if_false, reduceCtorEq, frame0, place, notTuple, Nat.reduceAdd, Nat.reduceLeDiff, resVal, dite_true, dite_false, Int.reduceEq, Int.reduceLT, Int.reduceLE]
    exact hN (j + 1) _ _ ⟨by omega, (by simp only [f3, upd_same, upd_ne, ne_eq, Nat.reduceEqDiff, not_false_eq_true, frame0, List.getD_cons_zero, List.getD_cons_succ]), (by simp only [f7, upd_same, upd_ne, ne_eq, Nat.reduceEqDiff, not_false_eq_true, frame0, List.getD_cons_zero, List.getD_cons_succ]), (by simp only [f8, upd_same, upd_ne, ne_eq, Nat.reduceEqDiff, not_false_eq_true, frame0, List.getD_cons_zero, List.getD_cons_succ]), (by simp only [f9, upd_same, upd_ne, ne_eq, Nat.reduceEqDiff, not_false_eq_true, frame0, List.getD_cons_zero, List.getD_cons_succ]), (by simp only [f10, upd_same, upd_ne, ne_eq, Nat.reduceEqDiff, not_false_eq_true, frame0, List.getD_cons_zero, List.getD_cons_succ]), (by simp only [f54, upd_same, upd_ne, ne_eq, Nat.reduceEqDiff, not_false_eq_true, frame0, List.getD_cons_zero, List.getD_cons_succ]), (by simp only [upd_same, upd_ne, ne_eq, Nat.reduceEqDiff, not_false_eq_true, frame0, List.getD_cons_zero, List.getD_cons_succ]), hE.app⟩ (by omega)
  obtain rfl : j = many := by omega
  clear hN
  simp only [n3, r3, f3, f7, f8, f9, f10, f54, f55, hlt, SB, Nat.reduceLT, callee, aOp, ne_eq, Nat.reduceEqDiff, aBin, aUn, if_true, if_false, reduceCtorEq, frame0, place, notTuple, Nat.reduceAdd, Nat.reduceLeDiff, resVal, dite_true, dite_false, Int.reduceEq, Int.reduceLT, Int.reduceLE]
  refine Crash_nil ?_
  simp only [n3, r3, f3, f7, f8, f9, f10, SB, Nat.reduceLT, callee, aOp, ne_eq, Nat.reduceEqDiff, aBin, aUn, if_true, if_false, reduceCtorEq, frame0, place, notTuple, Nat.reduceAdd, Nat.reduceLeDiff, resVal, dite_true, dite_false, Int.reduceEq, Int.reduceLT, Int.reduceLE]
  refine Sync_nil ?_
  have hl2 : H.length ≤ G.length := by have := hE.len; omega
  have cG : ∀ {y : Nat} {ro : Bool} {c : List Value}, hget (H ++ X) y = .cells ro c → y ≠ S1 → y ≠ D1 → y ≠ S2 → y ≠ D2 → hget G y = .cells ro c := fun h h1 h2 h3 h4 =>
    hE.cells (d1.cells (c1.cells (g2.cells h (by simp)) (by simp; omega)) (by simp; omega))
  have cS : ∀ {α : Type} {enc : α → List Value} {e : Nat} {p : Option Addr} {l : List α}, Sl H enc e p l → Sl G enc e p l := fun {α enc e p l} h => by
    cases p with
    | none => exact h
    | some a' =>
      refine ⟨h.1, fun hn => ?_⟩
      obtain ⟨ro, c, h2, h3⟩ := h.2 hn
      have := hget_alive h2
      exact ⟨ro, c, cG (by rw [hget_old this]; exact h2) (by omega) (by omega) (by omega) (by omega), h3⟩
  have h3G := fun Y => (Ext.refl.app (X := Y)).cells (cG h3 (by omega) (by omega) (by omega) (by omega))
  simp only [n3, r3, f3, f7, f8, f9, f10, h3G, SB, Nat.reduceLT, callee, aOp, ne_eq, Nat.reduceEqDiff, aBin, aUn, if_true, if_false, reduceCtorEq, frame0, place, notTuple, Nat.reduceAdd, Nat.reduceLeDiff, resVal, dite_true, dite_false, Int.reduceEq, Int.reduceLT, Int.reduceLE]
  refine given_ok (cS ha |>.app _) (cS hx |>.app _) n1 n2 (by simp; omega) fun p1 t1 q1' t2 G3 E1 E2 E3 => ?_
  rw [List.append_nil] at E1
  refine Ret_pad ?_
  have e1l := E1.len
  simp only [n3, r3, f3, f7, f8, f9, f10, h3G, SB, Nat.reduceLT, callee, aOp, ne_eq, Nat.reduceEqDiff, aBin, aUn, if_true, if_false, reduceCtorEq, frame0, place, notTuple, Nat.reduceAdd, Nat.reduceLeDiff, resVal, dite_true, dite_false, Int.reduceEq, Int.reduceLT, Int.reduceLE]
  refine refCrash_ok (mp := false) (lost := lostL m j) (E2.app _) (E3.app _) ((E1.sl sb3 (by simp)).app _) (by simp; omega) n1 (by omega) (by omega) ll.symm fun p3 t3 G4 E4 E5 => ?_
  rw [List.append_nil] at E4
  refine Ret_pad ?_
  have e4l := E4.len
  have cA : Chg [] G G4 := E1.trans E4
  have sameD : ∀ {G5 : Heap} {D S t : Nat} {l : List Bool} {pr : Option Addr}, hget G5 D = .cells false [.slice (some ⟨S, 0, none⟩) a.length t, .slice none 0 0] → (a ≠ [] → hget G5 S = .cells false ((crashed l x a).flatMap encX)) → Sl G5 encX 32 pr (crashed l x a) →
      ∀ (tr' : Nat) (Y : Heap) (mp : Bool) (lim : Nat) (Q : Value → Heap → Prop), CallR E mp lim 15 [.pointer (some ⟨D, 0, none⟩), .agg #[.slice pr a.length tr', .slice none 0 0]] (G5 ++ Y) Q = Q (.bool true) (G5 ++ Y) := by
    intro G5 D S t l pr dA dS dR tr' Y mp lim Q
    have sA : Sl G5 encX 32 (some ⟨S, 0, none⟩) (crashed l x a) := by
      by_cases h : a = []
      · exact ⟨rfl, fun h' => absurd (List.length_eq_zero_iff.1 (by rw [crashed_len, h]; rfl)) h'⟩
      · exact Sl.lit encX_len (by rw [dS h]; rfl) (by rw [dS h]; rfl)
    have dA' : hget (G5 ++ Y) D = .cells false [.slice (some ⟨S, 0, none⟩) (crashed l x a).length t, .slice none ([] : List Wr).length 0] := (Ext.refl.app).cells (by rw [crashed_len]; exact dA)
    have := same_ok (mp := mp) (lim := lim) (Q := Q) (k3 := tr') (k4 := 0) (y := ([] : List Wr)) (pq := none) dA' (sA.app Y) rfl (dR.app Y) rfl (by rw [crashed_len]; omega) (by decide)
    rw [crashed_len] at this
    rw [show Value.slice none 0 0 = Value.slice none ([] : List Wr).length 0 from rfl, this]
    simp [sameDisk]
  have sm := sameD (cA.cells (hE.cells (d1.cells c2 (by simp; omega))) (by simp)) (fun h => cA.cells (hE.cells (d1.cells (c3' h) (by simp; omega))) (by simp)) E5
  have h3G4 := fun Y => (Ext.refl.app (X := Y)).cells (cA.cells (cG h3 (by omega) (by omega) (by omega) (by omega)) (by simp))
  simp only [n3, r3, f3, f7, f8, f9, f10, h3G4, sm, SB, Nat.reduceLT, callee, aOp, ne_eq, Nat.reduceEqDiff, aBin, aUn, if_true, if_false, reduceCtorEq, frame0, place, notTuple, Nat.reduceAdd, Nat.reduceLeDiff, resVal, dite_true, dite_false, Int.reduceEq, Int.reduceLT, Int.reduceLE]
  refine given_ok ((cA.sl (cS ha) (by simp)).app _) ((cA.sl (cS hx) (by simp)).app _) n1 n2 (by simp; omega) fun p5 t5 q5 t6 G6 F1 F2 F3 => ?_
  rw [List.append_nil] at F1
  refine Ret_pad ?_
  have f1l := F1.len
  simp only [n3, r3, f3, f7, f8, f9, f10, h3G4, SB, Nat.reduceLT, callee, aOp, ne_eq, Nat.reduceEqDiff, aBin, aUn, if_true, if_false, reduceCtorEq, frame0, place, notTuple, Nat.reduceAdd, Nat.reduceLeDiff, resVal, dite_true, dite_false, Int.reduceEq, Int.reduceLT, Int.reduceLE]
  refine refCrash_ok (mp := false) (lost := []) (F2.app _) (F3.app _) rfl (by simp; omega) n1 (by omega) (by decide) rfl fun p6 t6 G7 F4 F5 => ?_
  rw [List.append_nil] at F4
  refine Ret_pad ?_
  have cB : Chg [] G G7 := (cA.trans F1).trans F4
  have sm2 := sameD (cB.cells (hE.cells d2) (by simp)) (fun h => cB.cells (hE.cells (d3 h)) (by simp)) F5
  simp only [n3, r3, f3, f7, f8, f9, f10, sm2, awake_ok, SB, Nat.reduceLT, callee, aOp, ne_eq, Nat.reduceEqDiff, aBin, aUn, if_true, if_false, reduceCtorEq, frame0, place, notTuple, Nat.reduceAdd, Nat.reduceLeDiff, resVal, dite_true, dite_false, Int.reduceEq, Int.reduceLT, Int.reduceLE]
/-- What this chapter's statements take: a disk. -/
theorem JournalDisks_ok {mp : Bool} {lim k1 k2 : Nat} {sp pp : Option Addr} {a : List Sec} {x : List Wr} {m : Int} {many : Nat} {H : Heap} {Q : Value → Heap → Prop}
    (ha : Sl H encX 32 sp a) (hx : Sl H encW 33 pp x) (n1 : a.length < 2 ^ 63) (n2 : x.length < 2 ^ 63) (hm : many ≤ 255) :
    CallR E mp lim 3 [.agg #[.slice sp a.length k1, .slice pp x.length k2], .int .u64 m, .int .u8 many] H Q = Q (.bool true) H := by
  refine pc (by decide) e3 rfl rfl ?_
  rw [b3, c3_cut]
  simp only [c3, hdC, tlC]
  by_cases h1 : (200 : Int) < (a.length : Int)
  · simp only [n3, r3, awake_ok, h1, SB, Nat.reduceLT, callee, aOp, ne_eq, Nat.reduceEqDiff, aBin, aUn, if_true, if_false, reduceCtorEq, frame0, place, notTuple, Nat.reduceAdd, Nat.reduceLeDiff, resVal, dite_true, dite_false, Int.reduceEq, Int.reduceLT, Int.reduceLE]
  by_cases h2 : (200 : Int) < (x.length : Int)
  · simp only [n3, r3, awake_ok, h1, h2, SB, Nat.reduceLT, callee, aOp, ne_eq, Nat.reduceEqDiff, aBin, aUn, if_true, if_false, reduceCtorEq, frame0, place, notTuple, Nat.reduceAdd, Nat.reduceLeDiff, resVal, dite_true, dite_false, Int.reduceEq, Int.reduceLT, Int.reduceLE]
  have m1 : a.length ≤ 200 := by omega
  have m2 : x.length ≤ 200 := by omega
  by_cases ne1 : a = []
  · by_cases ne2 : x = []
    · subst ne1; subst ne2
      simp only [n3, r3, awake_ok, h1, h2, append_new0, SB, Nat.reduceLT, callee, aOp, ne_eq, Nat.reduceEqDiff, aBin, aUn, if_true, if_false, reduceCtorEq, frame0, place, notTuple, Nat.reduceAdd, Nat.reduceLeDiff, resVal, dite_true, dite_false, Int.reduceEq, Int.reduceLT, Int.reduceLE]
      exact rest_ok (m := m) (many := many) (D1 := H.length + 5) (S1 := H.length + 1) (P1 := H.length + 3) (D2 := H.length + 10) (S2 := H.length + 6) (P2 := H.length + 8) ha hx (by simp; try omega) (by simp; try omega) hm (by simp only [upd_same, upd_ne, ne_eq, Nat.reduceEqDiff, not_false_eq_true, frame0, List.getD_cons_zero, List.getD_cons_succ]) (by simp only [upd_same, upd_ne, ne_eq, Nat.reduceEqDiff, not_false_eq_true, frame0, List.getD_cons_zero, List.getD_cons_succ]) (by simp only [upd_same, upd_ne, ne_eq, Nat.reduceEqDiff, not_false_eq_true, frame0, List.getD_cons_zero, List.getD_cons_succ]) (by simp only [upd_same, upd_ne, ne_eq, Nat.reduceEqDiff, not_false_eq_true, frame0, List.getD_cons_zero, List.getD_cons_succ]) (by simp only [upd_same, upd_ne, ne_eq, Nat.reduceEqDiff, not_false_eq_true, frame0, List.getD_cons_zero, List.getD_cons_succ]) (by rw [hget_new0]; rfl) ⟨by rw [hget_new]; rfl, fun h => absurd rfl h, fun h => absurd rfl h, by omega, by omega, by omega, by simp, by simp, by simp, by omega, by omega, by omega⟩ ⟨by rw [hget_new]; rfl, fun h => absurd rfl h, fun h => absurd rfl h, by omega, by omega, by omega, by simp, by simp, by simp, by omega, by omega, by omega⟩ (by simp)
    · have happ2 := fun X b d (h : hget (H ++ X) b = .cells false []) => append_new (lim := H.length) (b := b) (d := d) (bytes := 40) (c := k2) h (hx.app X) (by decide) (by unfold maxBytes; omega) (by omega) ne2
      subst ne1
      simp only [n3, r3, awake_ok, h1, h2, append_new0, happ2, SB, Nat.reduceLT, callee, aOp, ne_eq, Nat.reduceEqDiff, aBin, aUn, if_true, if_false, reduceCtorEq, frame0, place, notTuple, Nat.reduceAdd, Nat.reduceLeDiff, resVal, dite_true, dite_false, Int.reduceEq, Int.reduceLT, Int.reduceLE]
      exact rest_ok (m := m) (many := many) (D1 := H.length + 5) (S1 := H.length + 1) (P1 := H.length + 4) (D2 := H.length + 10) (S2 := H.length + 6) (P2 := H.length + 9) ha hx (by simp; try omega) (by simp; try omega) hm (by simp only [upd_same, upd_ne, ne_eq, Nat.reduceEqDiff, not_false_eq_true, frame0, List.getD_cons_zero, List.getD_cons_succ]) (by simp only [upd_same, upd_ne, ne_eq, Nat.reduceEqDiff, not_false_eq_true, frame0, List.getD_cons_zero, List.getD_cons_succ]) (by simp only [upd_same, upd_ne, ne_eq, Nat.reduceEqDiff, not_false_eq_true, frame0, List.getD_cons_zero, List.getD_cons_succ]) (by simp only [upd_same, upd_ne, ne_eq, Nat.reduceEqDiff, not_false_eq_true, frame0, List.getD_cons_zero, List.getD_cons_succ]) (by simp only [upd_same, upd_ne, ne_eq, Nat.reduceEqDiff, not_false_eq_true, frame0, List.getD_cons_zero, List.getD_cons_succ]) (by rw [hget_new0]; rfl) ⟨by rw [hget_new]; rfl, fun h => absurd rfl h, fun _ => by rw [hget_new]; rfl, by omega, by omega, by omega, by simp, by simp, by simp, by omega, by omega, by omega⟩ ⟨by rw [hget_new]; rfl, fun h => absurd rfl h, fun _ => by rw [hget_new]; rfl, by omega, by omega, by omega, by simp, by simp, by simp, by omega, by omega, by omega⟩ (by simp)
  · have happ := fun X b d (h : hget (H ++ X) b = .cells false []) => append_new (lim := H.length) (b := b) (d := d) (bytes := 32) (c := k1) h (ha.app X) (by decide) (by unfold maxBytes; omega) (by omega) ne1
    by_cases ne2 : x = []
    · subst ne2
      simp only [n3, r3, awake_ok, h1, h2, append_new0, happ, SB, Nat.reduceLT, callee, aOp, ne_eq, Nat.reduceEqDiff, aBin, aUn, if_true, if_false, reduceCtorEq, frame0, place, notTuple, Nat.reduceAdd, Nat.reduceLeDiff, resVal, dite_true, dite_false, Int.reduceEq, Int.reduceLT, Int.reduceLE]
      exact rest_ok (m := m) (many := many) (D1 := H.length + 5) (S1 := H.length + 2) (P1 := H.length + 3) (D2 := H.length + 10) (S2 := H.length + 7) (P2 := H.length + 8) ha hx (by simp; try omega) (by simp; try omega) hm (by simp only [upd_same, upd_ne, ne_eq, Nat.reduceEqDiff, not_false_eq_true, frame0, List.getD_cons_zero, List.getD_cons_succ]) (by simp only [upd_same, upd_ne, ne_eq, Nat.reduceEqDiff, not_false_eq_true, frame0, List.getD_cons_zero, List.getD_cons_succ]) (by simp only [upd_same, upd_ne, ne_eq, Nat.reduceEqDiff, not_false_eq_true, frame0, List.getD_cons_zero, List.getD_cons_succ]) (by simp only [upd_same, upd_ne, ne_eq, Nat.reduceEqDiff, not_false_eq_true, frame0, List.getD_cons_zero, List.getD_cons_succ]) (by simp only [upd_same, upd_ne, ne_eq, Nat.reduceEqDiff, not_false_eq_true, frame0, List.getD_cons_zero, List.getD_cons_succ]) (by rw [hget_new0]; rfl) ⟨by rw [hget_new]; rfl, fun _ => by rw [hget_new]; rfl, fun h => absurd rfl h, by omega, by omega, by omega, by simp, by simp, by simp, by omega, by omega, by omega⟩ ⟨by rw [hget_new]; rfl, fun _ => by rw [hget_new]; rfl, fun h => absurd rfl h, by omega, by omega, by omega, by simp, by simp, by simp, by omega, by omega, by omega⟩ (by simp)
    · have happ2 := fun X b d (h : hget (H ++ X) b = .cells false []) => append_new (lim := H.length) (b := b) (d := d) (bytes := 40) (c := k2) h (hx.app X) (by decide) (by unfold maxBytes; omega) (by omega) ne2
      simp only [n3, r3, awake_ok, h1, h2, happ, happ2, SB, Nat.reduceLT, callee, aOp, ne_eq, Nat.reduceEqDiff, aBin, aUn, if_true, if_false, reduceCtorEq, frame0, place, notTuple, Nat.reduceAdd, Nat.reduceLeDiff, resVal, dite_true, dite_false, Int.reduceEq, Int.reduceLT, Int.reduceLE]
      exact rest_ok (m := m) (many := many) (D1 := H.length + 5) (S1 := H.length + 2) (P1 := H.length + 4) (D2 := H.length + 10) (S2 := H.length + 7) (P2 := H.length + 9) ha hx (by simp; try omega) (by simp; try omega) hm (by simp only [upd_same, upd_ne, ne_eq, Nat.reduceEqDiff, not_false_eq_true, frame0, List.getD_cons_zero, List.getD_cons_succ]) (by simp only [upd_same, upd_ne, ne_eq, Nat.reduceEqDiff, not_false_eq_true, frame0, List.getD_cons_zero, List.getD_cons_succ]) (by simp only [upd_same, upd_ne, ne_eq, Nat.reduceEqDiff, not_false_eq_true, frame0, List.getD_cons_zero, List.getD_cons_succ]) (by simp only [upd_same, upd_ne, ne_eq, Nat.reduceEqDiff, not_false_eq_true, frame0, List.getD_cons_zero, List.getD_cons_succ]) (by simp only [upd_same, upd_ne, ne_eq, Nat.reduceEqDiff, not_false_eq_true, frame0, List.getD_cons_zero, List.getD_cons_succ]) (by rw [hget_new0]; rfl) ⟨by rw [hget_new]; rfl, fun _ => by rw [hget_new]; rfl, fun _ => by rw [hget_new]; rfl, by omega, by omega, by omega, by simp, by simp, by simp, by omega, by omega, by omega⟩ ⟨by rw [hget_new]; rfl, fun _ => by rw [hget_new]; rfl, fun _ => by rw [hget_new]; rfl, by omega, by omega, by omega, by simp, by simp, by simp, by omega, by omega, by omega⟩ (by simp)
end Go.Proofs.Ytdddehniepofmaa.Fn
