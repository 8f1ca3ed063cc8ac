/-
  The abstract machine, part 5: writing into a block, and what an append leaves.
-/
import Derived.Test.YtlmoijifgbkapaaAm4
set_option linter.unusedVariables false
set_option linter.unusedSimpArgs false
namespace Go.AM

theorem setAll_length : ∀ (vs c : List Value) (o : Nat), (setAll c o vs).length = c.length
  | [], _, _ => rfl
  | v :: vs, c, o => by simp [setAll, setAll_length vs]
theorem setAll_out : ∀ (vs c : List Value) (o j : Nat), j < o ∨ o + vs.length ≤ j → (setAll c o vs)[j]? = c[j]?
  | [], _, _, _, _ => rfl
  | v :: vs, c, o, j, h => by
    simp only [List.length_cons] at h
    rw [setAll, setAll_out vs _ _ _ (by omega), List.getElem?_set, if_neg (by omega)]
theorem setAll_in : ∀ (vs c : List Value) (o j : Nat) v, vs[j]? = some v → o + vs.length ≤ c.length → (setAll c o vs)[o + j]? = some v
  | [], _, _, _, _, h, _ => by simp at h
  | u :: vs, c, o, j, v, h, hl => by
    simp only [List.length_cons] at hl
    cases j with
    | zero =>
      simp at h; subst h
      have : o < c.length := by omega
      rw [setAll, setAll_out vs _ _ _ (by omega)]
      simp [this]
    | succ j =>
      rw [setAll, show o + (j + 1) = o + 1 + j by omega]
      exact setAll_in vs _ (o + 1) j v (by simpa using h) (by simp; omega)

theorem heap_setCell {w : World} {b o : Nat} {v : Value} {cs : Array Value} {el : TypeId} {fz : Nat × Nat} (h : w.heap[b]? = some (.cells cs el fz)) :
    (w.setCell ⟨b, o, none⟩ v).heap[b]? = some (.cells (cs.setIfInBounds o v) el fz) := by
  obtain ⟨f1, f2⟩ := fz
  simp [World.setCell, Array.getElem?_modify, h]
theorem heap_setCell_ne {w : World} {b o k : Nat} {v : Value} (h : k ≠ b) : (w.setCell ⟨b, o, none⟩ v).heap[k]? = w.heap[k]? := by
  simp [World.setCell, Array.getElem?_modify, Ne.symm h]

structure Wrote (w w' : World) (b o : Nat) (vs : List Value) (cs : Array Value) (el : TypeId) (fz : Nat × Nat) (cs' : Array Value) : Prop where
  heap : w'.heap[b]? = some (.cells cs' el fz)
  size : cs'.size = cs.size
  out : ∀ j, j < o ∨ o + vs.length ≤ j → cs'[j]? = cs[j]?
  inn : ∀ (j : Nat) v, vs[j]? = some v → cs'[o + j]? = some v
  other : ∀ k, k ≠ b → w'.heap[k]? = w.heap[k]?
  len : w'.heap.size = w.heap.size
  os : w'.os = w.os
  tape : w'.tape = w.tape
  output : w'.output = w.output

theorem setCells_wrote (b : Nat) (el : TypeId) (fz : Nat × Nat) : ∀ (vs : List Value) (o : Nat) (w : World) (cs : Array Value), w.heap[b]? = some (.cells cs el fz) → o + vs.length ≤ cs.size →
    ∃ cs', Wrote w (w.setCells b o vs) b o vs cs el fz cs'
  | [], o, w, cs, h, _ => ⟨cs, h, rfl, fun _ _ => rfl, fun j v hv => by simp at hv, fun _ _ => rfl, rfl, rfl, rfl, rfl⟩
  | v :: vs, o, w, cs, h, hl => by
    simp only [List.length_cons] at hl
    obtain ⟨cs', k⟩ := setCells_wrote b el fz vs (o + 1) (w.setCell ⟨b, o, none⟩ v) _ (heap_setCell h) (by simp; omega)
    refine ⟨cs', k.heap, by rw [k.size]; simp, fun j hj => ?_, fun j u hu => ?_, fun m hm => by rw [World.setCells, k.other m hm, heap_setCell_ne hm], ?_, ?_, ?_, ?_⟩
    · simp only [List.length_cons] at hj
      rw [k.out j (by omega), Array.getElem?_setIfInBounds_ne (by omega)]
    · cases j with
      | zero =>
        simp at hu; subst hu
        rw [Nat.add_zero, k.out o (by omega), Array.getElem?_setIfInBounds_self]
        simp; omega
      | succ j =>
        rw [show o + (j + 1) = o + 1 + j by omega]
        exact k.inn j u (by simpa using hu)
    · rw [World.setCells, k.len]; simp
    · rw [World.setCells, k.os]; rfl
    · rw [World.setCells, k.tape]; rfl
    · rw [World.setCells, k.output]; rfl

section
variable {W : Nat → Prop} {lim : Nat} {σ : Sig} {H : Heap} {w : World}

/-- A block of one's own holds something else. -/
theorem Inv.rewrite (h : Inv W lim σ H w) {i : Nat} {b b' : Blk} {L : Loc} (hi : H[i]? = some b) (ho : owned b = true) (hL : σ i = some L) {w' : World} (hs : w'.heap.size = w.heap.size)
    (hh : ∀ k, k ≠ L.blk → w'.heap[k]? = w.heap[k]?) (hb' : BlkRel σ w' L b') (hob : alive b' = true → owned b' = true) : Inv W lim σ (H.set i b') w' := by
  have hil : i < H.length := (List.getElem?_eq_some_iff.1 hi).1
  have gs : (H.set i b')[i]? = some b' := by rw [List.getElem?_set, if_pos rfl, if_pos hil]
  have gn : ∀ j, j ≠ i → (H.set i b')[j]? = H[j]? := fun j hj => by rw [List.getElem?_set, if_neg (Ne.symm hj)]
  refine ⟨fun j bj hbj ha => ?_, fun j k bj bk Lj Lk hbj hbk hne hoj hak hj1 hk1 => ?_, fun j bj Lj hbj hoj hlj hj1 => ?_, fun b hb => h.fresh b (by omega), fun j hj => h.dom j (by simpa using hj)⟩
  · by_cases e : j = i
    · subst e
      rw [gs] at hbj; cases hbj
      exact ⟨L, hL, hb'⟩
    · rw [gn j e] at hbj
      obtain ⟨Lj, h1, h2⟩ := h.blk j bj hbj ha
      exact ⟨Lj, h1, h2.mono (Sig.le_refl σ) fun ha => hh _ (Ne.symm (h.inj i j b bj L Lj hi hbj (Ne.symm e) ho ha hL h1))⟩
  · by_cases e : j = i
    · subst e
      rw [gn k (Ne.symm hne)] at hbk
      exact h.inj j k b bk Lj Lk hi hbk hne ho hak hj1 hk1
    · rw [gn j e] at hbj
      by_cases e' : k = i
      · subst e'
        exact h.inj j k bj b Lj Lk hbj hi hne hoj (alive_of_owned ho) hj1 hk1
      · rw [gn k e'] at hbk
        exact h.inj j k bj bk Lj Lk hbj hbk hne hoj hak hj1 hk1
  · by_cases e : j = i
    · subst e; exact h.wr j b Lj hi ho hlj hj1
    · rw [gn j e] at hbj; exact h.wr j bj Lj hbj hoj hlj hj1

theorem Stp.one {w' : World} {blk : Nat} (hW : W blk) (hh : ∀ k, k ≠ blk → w'.heap[k]? = w.heap[k]?) (hs : w'.heap.size = w.heap.size) (h1 : w'.os = w.os) (h2 : w'.tape = w.tape) (h3 : w'.output = w.output) : Stp W w w' :=
  ⟨h1, h2, h3, Nat.le_of_eq hs.symm, fun b hb => hh b fun e => hb (e ▸ hW)⟩

/-- Cells of one's own are written. -/
theorem Inv.store {P : Program} (h : Inv W lim σ H w) {p : Addr} {vs vs' : List Value} {H' : Heap} {L : Loc} (hL : σ p.block = some L) (hv : storeAt lim H p vs = some H') (hr : LRel σ vs vs') (h1 : ∀ v ∈ vs', v.oneCell' = true) :
    ∃ w', (storeCells ⟨L.blk, L.base + p.off, none⟩ vs').run P w = .ok () w' ∧ Inv W lim σ H' w' ∧ Stp W w w' ∧ H'.length = H.length := by
  unfold storeAt at hv
  split at hv
  case h_2 => cases hv
  rename_i c hb
  split at hv
  case isFalse => cases hv
  rename_i hcond
  obtain ⟨hlim, hlen⟩ := hcond
  cases hv
  have hbs := hget_some hb rfl
  obtain ⟨cs, el, fz, hh, hc, ho⟩ := h.cells hb hL
  obtain ⟨ho1, ho2, ho3⟩ := ho rfl
  have hl' := hr.1
  obtain ⟨cs', k⟩ := setCells_wrote L.blk el fz vs' (L.base + p.off) w cs hh (by omega)
  refine ⟨_, run_storeCells_cells (P := P) L.blk (L.base + p.off) vs' 0 w (fun j hj => ?_) (fun j hj => ?_) h1, ?_, ?_, by simp⟩
  · rw [cell_of_heap hh (Array.getElem?_eq_getElem (by omega))]; rfl
  · simp only [World.frozen?, hh]
    have := ho3 (L.base + p.off + 0 + j) (by omega)
    obtain ⟨f1, f2⟩ := fz
    simp at this ⊢
    exact this
  · refine h.rewrite hbs rfl hL k.len k.other ⟨cs', el, fz, k.heap, fun j v hjv => ?_, fun _ => ⟨by rw [k.size]; exact ho1, by rw [setAll_length]; exact ho2, by rw [k.size]; exact ho3⟩⟩ (fun _ => rfl)
    by_cases hj : j < p.off ∨ p.off + vs.length ≤ j
    · rw [setAll_out vs c p.off j hj] at hjv
      obtain ⟨v', g1, g2, g3⟩ := hc j v hjv
      exact ⟨v', by rw [k.out _ (by omega)]; exact g1, g2, g3⟩
    · have hj2 : j = p.off + (j - p.off) := by omega
      have hv1 : vs[j - p.off]? = some (vs[j - p.off]'(by omega)) := List.getElem?_eq_getElem _
      rw [hj2, setAll_in vs c p.off (j - p.off) _ hv1 (by omega)] at hjv
      cases hjv
      obtain ⟨y, hy, hxy⟩ := hr.get hv1
      exact ⟨y, by rw [show L.base + j = L.base + p.off + (j - p.off) by omega]; exact k.inn _ _ hy, hxy, h1 y (List.mem_of_getElem? hy)⟩
  · exact Stp.one (h.wr _ _ _ hbs rfl hlim hL) k.other k.len k.os k.tape k.output

/-- A block of one's own is given up. -/
theorem Inv.kill (h : Inv W lim σ H w) {i : Nat} {b : Blk} (hi : H[i]? = some b) (ho : owned b = true) : Inv W lim σ (H.set i .dead) w := by
  obtain ⟨L, hL, _⟩ := h.blk i b hi (alive_of_owned ho)
  exact h.rewrite hi ho hL rfl (fun _ _ => rfl) trivial (fun h => by simp [alive] at h)

/-- A block is given up. -/
theorem Inv.killAny (h : Inv W lim σ H w) (i : Nat) : Inv W lim σ (H.set i .dead) w := by
  have gn : ∀ (j : Nat) b, (H.set i .dead)[j]? = some b → alive b = true → H[j]? = some b ∧ j ≠ i := fun j b hb ha => by
    rw [List.getElem?_set] at hb
    split at hb
    · split at hb
      · cases hb; simp [alive] at ha
      · cases hb
    · rename_i e; exact ⟨hb, fun e' => e e'.symm⟩
  refine ⟨fun j b hb ha => h.blk j b (gn j b hb ha).1 ha, fun j k bj bk Lj Lk hbj hbk hne hoj hak hj1 hk1 => ?_, fun j b L hb ho hl hL => h.wr j b L (gn j b hb (alive_of_owned ho)).1 ho hl hL, h.fresh, fun j hj => h.dom j (by simpa using hj)⟩
  exact h.inj j k bj bk Lj Lk (gn j bj hbj (alive_of_owned hoj)).1 (gn k bk hbk hak).1 hne hoj hak hj1 hk1

/-- An append that has room: the cells behind are written, the row goes on under a new name. -/
theorem Inv.appendRoom {P : Program} (h : Inv W lim σ H w) {p : Addr} {old new new' : List Value} {c : List Value} {L : Loc} (hb : hget H p.block = .cells false c) (hL : σ p.block = some L) (hlim : lim ≤ p.block)
    (hold : AM.loadCells H p old.length = some old) (hr : LRel σ new new') (h1 : ∀ v ∈ new', v.oneCell' = true) (hroom : p.off + old.length + new.length ≤ L.room)
    {dest : Option Nat} {H' : Heap} {i : Nat} (hp : place dest (.cells false (old ++ new)) (H.set p.block .dead) = (i, H')) (hd : ∀ d, dest = some d → d < H.length ∧ σ d = none) :
    ∃ w', (storeCells ⟨L.blk, L.base + p.off + old.length, none⟩ new').run P w = .ok () w' ∧ Inv W lim (σ.put i ⟨L.blk, L.base + p.off, L.room - p.off⟩) H' w' ∧ Stp W w w' ∧ σ i = none := by
  have hbs := hget_some hb rfl
  obtain ⟨cs, el, fz, hh, hc, ho⟩ := h.cells hb hL
  obtain ⟨ho1, ho2, ho3⟩ := ho rfl
  have hl' := hr.1
  obtain ⟨cs', k⟩ := setCells_wrote L.blk el fz new' (L.base + p.off + old.length) w cs hh (by omega)
  have hk : Inv W lim σ (H.set p.block .dead) (w.setCells L.blk (L.base + p.off + old.length) new') := h.rewrite hbs rfl hL k.len k.other trivial (fun h => by simp [alive] at h)
  obtain ⟨g1, g2, g3, g4, g5, g6, g7⟩ := place_get hp fun d e => by simpa using (hd d e).1
  have hσ : σ i = none := by
    cases dest with
    | none => rw [g5 rfl]; exact hk.dom _ (Nat.le_refl _)
    | some d => rw [(g6 d rfl).1]; exact (hd d rfl).2
  have hcold : ∀ (j : Nat) v, old[j]? = some v → c[p.off + j]? = some v := fun j v hv => by
    unfold AM.loadCells at hold
    rw [hb] at hold
    simp only at hold
    split at hold
    · have hj := (List.getElem?_eq_some_iff.1 hv).1
      have e : (c.drop p.off).take old.length = old := by simpa using hold
      rw [← e, List.getElem?_take, if_pos hj, List.getElem?_drop] at hv
      exact hv
    · cases hold
  refine ⟨_, run_storeCells_cells (P := P) L.blk (L.base + p.off + old.length) new' 0 w (fun j hj => ?_) (fun j hj => ?_) h1, ?_, ?_, hσ⟩
  · rw [cell_of_heap hh (Array.getElem?_eq_getElem (by omega))]; rfl
  · simp only [World.frozen?, hh]
    have := ho3 (L.base + p.off + old.length + 0 + j) (by omega)
    obtain ⟨f1, f2⟩ := fz
    simp at this ⊢
    exact this
  · refine hk.adopt g1 g2 g4 hσ ⟨cs', el, fz, k.heap, fun j v hv => ?_, fun _ => ⟨by rw [k.size]; simp; omega, by simp; omega, by rw [k.size]; exact ho3⟩⟩ rfl (show W L.blk from h.wr _ _ _ hbs rfl hlim hL) fun j bj Lj hji hbj ha hLj => ?_
    · show ∃ v', cs'[L.base + p.off + j]? = some v' ∧ _
      by_cases hj : j < old.length
      · rw [List.getElem?_append_left hj] at hv
        obtain ⟨v', e1, e2, e3⟩ := hc _ _ (hcold j v hv)
        exact ⟨v', by rw [k.out _ (by omega), show L.base + p.off + j = L.base + (p.off + j) by omega]; exact e1, e2.mono (Sig.le_put hσ), e3⟩
      · rw [List.getElem?_append_right (by omega)] at hv
        obtain ⟨y, hy, hxy⟩ := hr.get hv
        exact ⟨y, by rw [show L.base + p.off + j = L.base + p.off + old.length + (j - old.length) by omega]; exact k.inn _ _ hy, hxy.mono (Sig.le_put hσ), h1 y (List.mem_of_getElem? hy)⟩
    · by_cases e : j = p.block
      · subst e
        rw [List.getElem?_set, if_pos rfl] at hbj
        split at hbj
        · cases hbj; simp [alive] at ha
        · cases hbj
      · rw [List.getElem?_set, if_neg (Ne.symm e)] at hbj
        exact Ne.symm (h.inj p.block j _ bj L Lj hbs hbj (Ne.symm e) rfl ha hL hLj)
  · exact Stp.one (h.wr _ _ _ hbs rfl hlim hL) k.other k.len k.os k.tape k.output
end
end Go.AM
