/-
  The abstract machine, part 4: the invariant that ties an abstract heap to the model's world; reading, a new block, a store.
-/
import Derived.Test.YtlmoijifgbkapaaAm3
set_option linter.unusedVariables false
set_option linter.unusedSimpArgs false
namespace Go.AM

def owned : Blk → Bool
  | .dead => false
  | .cells ro _ => !ro
  | .map _ => true

def alive : Blk → Bool
  | .dead => false
  | _ => true

def BlkRel (σ : Sig) (w : World) (L : Loc) : Blk → Prop
  | .dead => True
  | .cells ro c => ∃ cs el fz, w.heap[L.blk]? = some (.cells cs el fz) ∧
      (∀ (j : Nat) v, c[j]? = some v → ∃ v', cs[L.base + j]? = some v' ∧ VRel σ v v' ∧ v'.oneCell' = true) ∧
      (ro = false → L.base + L.room ≤ cs.size ∧ c.length ≤ L.room ∧ ∀ o, o < cs.size → ¬ (fz.1 ≤ o ∧ o < fz.2))
  | .map es => ∃ ents clock, w.heap[L.blk]? = some (.map ents clock) ∧ ents.size = es.length ∧
      ∀ (j : Nat) e e', es[j]? = some e → ents[j]? = some e' → e.1 = e'.key ∧ VRel σ e.2 e'.val

structure Inv (W : Nat → Prop) (lim : Nat) (σ : Sig) (H : Heap) (w : World) : Prop where
  blk : ∀ (i : Nat) b, H[i]? = some b → alive b = true → ∃ L, σ i = some L ∧ BlkRel σ w L b
  inj : ∀ (i j : Nat) bi bj Li Lj, H[i]? = some bi → H[j]? = some bj → i ≠ j → owned bi = true → alive bj = true → σ i = some Li → σ j = some Lj → Li.blk ≠ Lj.blk
  wr : ∀ (i : Nat) b L, H[i]? = some b → owned b = true → lim ≤ i → σ i = some L → W L.blk
  fresh : ∀ b, w.heap.size ≤ b → W b
  dom : ∀ i, H.length ≤ i → σ i = none

/-- What a step may change: blocks of W alone. -/
structure Stp (W : Nat → Prop) (w w' : World) : Prop where
  os : w'.os = w.os
  tape : w'.tape = w.tape
  output : w'.output = w.output
  size : w.heap.size ≤ w'.heap.size
  block : ∀ b, ¬ W b → w'.heap[b]? = w.heap[b]?

theorem Stp.refl (W : Nat → Prop) (w : World) : Stp W w w := ⟨rfl, rfl, rfl, Nat.le_refl _, fun _ _ => rfl⟩
theorem Stp.trans {W : Nat → Prop} {a b c : World} (h : Stp W a b) (k : Stp W b c) : Stp W a c :=
  ⟨k.os.trans h.os, k.tape.trans h.tape, k.output.trans h.output, Nat.le_trans h.size k.size, fun i hi => (k.block i hi).trans (h.block i hi)⟩

theorem alive_of_owned {b : Blk} (h : owned b = true) : alive b = true := by cases b <;> simp_all [owned, alive]

theorem BlkRel.lt {σ : Sig} {w : World} {L : Loc} {b : Blk} (h : BlkRel σ w L b) (ha : alive b = true) : L.blk < w.heap.size := by
  have key : ∀ {o : Obj}, w.heap[L.blk]? = some o → L.blk < w.heap.size := fun h => (Array.getElem?_eq_some_iff.1 h).1
  cases b with
  | dead => simp [alive] at ha
  | cells ro c => obtain ⟨_, _, _, hh, _⟩ := h; exact key hh
  | map es => obtain ⟨_, _, hh, _⟩ := h; exact key hh

theorem BlkRel.mono {σ τ : Sig} (hle : Sig.le σ τ) {w w' : World} {L : Loc} {b : Blk} (h : BlkRel σ w L b) (hw : alive b = true → w'.heap[L.blk]? = w.heap[L.blk]?) : BlkRel τ w' L b := by
  cases b with
  | dead => trivial
  | cells ro c =>
    obtain ⟨cs, el, fz, hh, hc, ho⟩ := h
    refine ⟨cs, el, fz, by rw [hw rfl]; exact hh, fun j v hv => ?_, ho⟩
    obtain ⟨v', h1, h2, h3⟩ := hc j v hv
    exact ⟨v', h1, h2.mono hle, h3⟩
  | map es =>
    obtain ⟨en, cl, hh, hs, hk⟩ := h
    exact ⟨en, cl, by rw [hw rfl]; exact hh, hs, fun j e e' h1 h2 => ⟨(hk j e e' h1 h2).1, (hk j e e' h1 h2).2.mono hle⟩⟩

section
variable {W : Nat → Prop} {lim : Nat} {σ : Sig} {H : Heap} {w : World}

theorem hget_some {i : Nat} {b : Blk} (h : hget H i = b) (hb : alive b = true) : H[i]? = some b := by
  unfold hget at h
  rw [List.getD_eq_getElem?_getD] at h
  cases hi : H[i]? with
  | none => rw [hi] at h; simp at h; subst h; simp [alive] at hb
  | some x => rw [hi] at h; simp at h; rw [h]

theorem Inv.lt (h : Inv W lim σ H w) {i : Nat} {L : Loc} (hi : σ i = some L) : i < H.length := by
  rcases Nat.lt_or_ge i H.length with h1 | h1
  · exact h1
  · rw [h.dom i h1] at hi; cases hi

/-- The cells of a block, as they lie. -/
theorem Inv.cells (h : Inv W lim σ H w) {i : Nat} {ro : Bool} {c : List Value} (hb : hget H i = .cells ro c) {L : Loc} (hL : σ i = some L) :
    ∃ cs el fz, w.heap[L.blk]? = some (.cells cs el fz) ∧ (∀ (j : Nat) v, c[j]? = some v → ∃ v', cs[L.base + j]? = some v' ∧ VRel σ v v' ∧ v'.oneCell' = true) ∧
      (ro = false → L.base + L.room ≤ cs.size ∧ c.length ≤ L.room ∧ ∀ o, o < cs.size → ¬ (fz.1 ≤ o ∧ o < fz.2)) := by
  obtain ⟨L', h1, h2⟩ := h.blk i _ (hget_some hb rfl) rfl
  rw [hL] at h1; cases h1
  exact h2

theorem cell_of_heap {b o : Nat} {cs : Array Value} {el : TypeId} {fz : Nat × Nat} {v : Value} (h : w.heap[b]? = some (.cells cs el fz)) (hv : cs[o]? = some v) : w.cell? ⟨b, o, none⟩ = some v := by
  simp [World.cell?, h, hv]

theorem Inv.loadCell (h : Inv W lim σ H w) {p : Addr} {v : Value} {L : Loc} (hL : σ p.block = some L) (hv : loadCell H p = some v) :
    ∃ v', w.cell? ⟨L.blk, L.base + p.off, none⟩ = some v' ∧ VRel σ v v' ∧ v'.oneCell' = true := by
  unfold AM.loadCell at hv
  split at hv
  · rename_i ro c hb
    obtain ⟨cs, el, fz, hh, hc, _⟩ := h.cells hb hL
    obtain ⟨v', h1, h2⟩ := hc _ _ hv
    exact ⟨v', cell_of_heap hh h1, h2⟩
  · cases hv

/-- Many cells, by a list. -/
theorem Inv.loadCells (h : Inv W lim σ H w) {p : Addr} {n : Nat} {l : List Value} {L : Loc} (hL : σ p.block = some L) (hv : loadCells H p n = some l) :
    ∃ l', LRel σ l l' ∧ l'.length = n ∧ (∀ y ∈ l', y.oneCell' = true) ∧ ∀ (j : Nat) v, l'[j]? = some v → w.cell? ⟨L.blk, L.base + p.off + j, none⟩ = some v := by
  unfold AM.loadCells at hv
  split at hv
  case h_2 => cases hv
  rename_i ro c hb
  split at hv
  case isFalse => cases hv
  rename_i hlen
  cases hv
  obtain ⟨cs, el, fz, hh, hc, _⟩ := h.cells hb hL
  refine ⟨(List.range n).map fun j => cs.getD (L.base + p.off + j) undef, ?_, by simp, ?_, ?_⟩
  · refine ⟨by simp; omega, fun i x y hx hy => ?_⟩
    simp only [List.getElem?_take, List.getElem?_drop] at hx
    split at hx
    case isFalse => cases hx
    rename_i hi
    obtain ⟨v', h1, h2, _⟩ := hc _ _ hx
    rw [List.getElem?_map, List.getElem?_range hi] at hy
    simp only [Option.map_some, Option.some.injEq] at hy
    subst hy
    rw [show L.base + p.off + i = L.base + (p.off + i) by omega, Array.getD_eq_getD_getElem?, h1]
    exact h2
  · intro y hy
    obtain ⟨j, hj, rfl⟩ := List.mem_map.1 hy
    have hj := List.mem_range.1 hj
    obtain ⟨v', h1, _, h3⟩ := hc (p.off + j) _ (List.getElem?_eq_getElem (by omega))
    rw [show L.base + p.off + j = L.base + (p.off + j) by omega, Array.getD_eq_getD_getElem?, h1]
    exact h3
  · intro j v hv
    rw [List.getElem?_map] at hv
    simp only [Option.map_eq_some_iff] at hv
    obtain ⟨j', hj', rfl⟩ := hv
    have hjn : j < n := by
      have := (List.getElem?_eq_some_iff.1 hj').1
      simpa using this
    rw [List.getElem?_range hjn] at hj'
    cases hj'
    obtain ⟨v', h1, _⟩ := hc (p.off + j) _ (List.getElem?_eq_getElem (by omega))
    refine cell_of_heap hh ?_
    rw [show L.base + p.off + j = L.base + (p.off + j) by omega, Array.getD_eq_getD_getElem?, h1]
    rfl

/-! ### A new block -/
/-- The signature with one place more. -/
def Sig.put (σ : Sig) (i : Nat) (L : Loc) : Sig := fun j => if j = i then some L else σ j
theorem Sig.le_put {σ : Sig} {i : Nat} {L : Loc} (h : σ i = none) : Sig.le σ (σ.put i L) := fun j M hj => by
  unfold Sig.put
  split
  · rename_i e; subst e; rw [h] at hj; cases hj
  · exact hj
theorem Sig.put_same {σ : Sig} {i : Nat} {L : Loc} : σ.put i L i = some L := by simp [Sig.put]

/-- The heap's places, where a block is laid. -/
theorem place_get {dest : Option Nat} {b : Blk} {H H' : Heap} {i : Nat} (h : place dest b H = (i, H')) (hd : ∀ d, dest = some d → d < H.length) :
    H'[i]? = some b ∧ (∀ j, j ≠ i → H'[j]? = H[j]?) ∧ H.length ≤ H'.length ∧ (∀ j, H'.length ≤ j → H.length ≤ j ∧ j ≠ i) ∧ (dest = none → i = H.length) ∧ (∀ d, dest = some d → i = d ∧ H'.length = H.length) ∧ i < H'.length := by
  unfold place at h
  cases dest with
  | none =>
    simp only [Prod.mk.injEq] at h
    obtain ⟨rfl, rfl⟩ := h
    refine ⟨by simp, fun j hj => ?_, by simp, fun j hj => ?_, fun _ => rfl, fun d hd => absurd hd (by simp), by simp⟩
    · rcases Nat.lt_or_ge j H.length with h1 | h1
      · rw [List.getElem?_append_left h1]
      · rw [List.getElem?_append_right h1, List.getElem?_eq_none h1, List.getElem?_eq_none]
        simp; omega
    · simp at hj; omega
  | some d =>
    simp only [Prod.mk.injEq] at h
    obtain ⟨rfl, rfl⟩ := h
    have hd' := hd d rfl
    refine ⟨by simp [hd'], fun j hj => by rw [List.getElem?_set, if_neg (fun e => hj e.symm)], by simp, fun j hj => ?_, fun h => absurd h (by simp), (fun x hx => by cases hx; exact ⟨rfl, by simp⟩), by simpa using hd'⟩
    simp at hj; omega

/-- A block that lies in the world, and is not known yet, may be taken in. -/
theorem Inv.adopt (h : Inv W lim σ H w) {H' : Heap} {i : Nat} {b : Blk} {L : Loc} (hi : H'[i]? = some b) (hj : ∀ j, j ≠ i → H'[j]? = H[j]?) (hlen : ∀ j, H'.length ≤ j → H.length ≤ j ∧ j ≠ i)
    (hσ : σ i = none) (hb : BlkRel (σ.put i L) w L b) (ho : owned b = true) (hW : W L.blk)
    (hnew : ∀ (j : Nat) bj Lj, j ≠ i → H[j]? = some bj → alive bj = true → σ j = some Lj → Lj.blk ≠ L.blk) : Inv W lim (σ.put i L) H' w := by
  refine ⟨fun j bj hbj hal => ?_, fun j k bj bk Lj Lk hbj hbk hne hoj hak hj1 hk1 => ?_, fun j bj Lj hbj hoj hlj hj1 => ?_, h.fresh, fun j hjl => ?_⟩
  · by_cases e : j = i
    · subst e
      rw [hi] at hbj; cases hbj
      exact ⟨L, Sig.put_same, hb⟩
    · rw [hj j e] at hbj
      obtain ⟨Lj, h1, h2⟩ := h.blk j bj hbj hal
      exact ⟨Lj, Sig.le_put hσ _ _ h1, h2.mono (Sig.le_put hσ) fun _ => rfl⟩
  · by_cases e : j = i
    · subst e
      rw [hi] at hbj; cases hbj
      rw [Sig.put_same] at hj1; cases hj1
      rw [hj k (Ne.symm hne)] at hbk
      have hk2 : σ k = some Lk := by simpa [Sig.put, Ne.symm hne] using hk1
      exact fun e => hnew k bk Lk (Ne.symm hne) hbk hak hk2 e.symm
    · have hj2 : σ j = some Lj := by simpa [Sig.put, e] using hj1
      rw [hj j e] at hbj
      by_cases e' : k = i
      · subst e'
        rw [Sig.put_same] at hk1; cases hk1
        exact hnew j bj Lj e hbj (alive_of_owned hoj) hj2
      · have hk2 : σ k = some Lk := by simpa [Sig.put, e'] using hk1
        rw [hj k e'] at hbk
        exact h.inj j k bj bk Lj Lk hbj hbk hne hoj hak hj2 hk2
  · by_cases e : j = i
    · subst e
      rw [Sig.put_same] at hj1; cases hj1
      exact hW
    · have hj2 : σ j = some Lj := by simpa [Sig.put, e] using hj1
      rw [hj j e] at hbj
      exact h.wr j bj Lj hbj hoj hlj hj2
  · obtain ⟨h1, h2⟩ := hlen j hjl
    simp [Sig.put, h2, h.dom j h1]

/-- The world with one object more. -/
theorem Inv.world (h : Inv W lim σ H w) {w' : World} (hs : w.heap.size ≤ w'.heap.size) (hh : ∀ b, b < w.heap.size → w'.heap[b]? = w.heap[b]?) : Inv W lim σ H w' := by
  refine ⟨fun i b hb ha => ?_, h.inj, h.wr, fun b hb => h.fresh b (by omega), h.dom⟩
  obtain ⟨L, h1, h2⟩ := h.blk i b hb ha
  exact ⟨L, h1, h2.mono (Sig.le_refl σ) fun _ => hh _ (h2.lt ha)⟩

theorem heap_push (w : World) (o : Obj) : (w.alloc o).heap = w.heap.push o := rfl
theorem Stp.alloc (hf : ∀ b, w.heap.size ≤ b → W b) (o : Obj) : Stp W w (w.alloc o) := by
  refine ⟨rfl, rfl, rfl, by simp, fun b hb => ?_⟩
  rw [heap_push, Array.getElem?_push]
  split
  · rename_i e; exact absurd (hf b (by omega)) hb
  · rfl
theorem Stp.drew : Stp W w w.drew := ⟨rfl, rfl, rfl, Nat.le_refl _, fun _ _ => rfl⟩
theorem Inv.drew (h : Inv W lim σ H w) : Inv W lim σ H w.drew := h.world (Nat.le_refl _) fun _ _ => rfl

/-- A new row of cells. -/
theorem Inv.alloc (h : Inv W lim σ H w) {dest : Option Nat} {c : List Value} {H' : Heap} {i : Nat} (hp : place dest (.cells false c) H = (i, H')) (hd : ∀ d, dest = some d → d < H.length ∧ σ d = none)
    {cs : Array Value} {el : TypeId} (hc : ∀ (j : Nat) v, c[j]? = some v → ∃ v', cs[j]? = some v' ∧ VRel σ v v' ∧ v'.oneCell' = true) (hn : c.length ≤ cs.size) :
    Inv W lim (σ.put i ⟨w.heap.size, 0, cs.size⟩) H' (w.alloc (.cells cs el)) ∧ σ i = none := by
  obtain ⟨g1, g2, g3, g4, g5, g6, g7⟩ := place_get hp fun d e => (hd d e).1
  have hσ : σ i = none := by
    cases dest with
    | none => rw [g5 rfl]; exact h.dom _ (Nat.le_refl _)
    | some d => rw [(g6 d rfl).1]; exact (hd d rfl).2
  refine ⟨?_, hσ⟩
  have hw : Inv W lim σ H (w.alloc (.cells cs el)) := h.world (by simp) fun b hb => by rw [heap_push, Array.getElem?_push]; rw [if_neg (by omega)]
  refine hw.adopt g1 g2 g4 hσ ?_ rfl (h.fresh _ (Nat.le_refl _)) fun j bj Lj hji hbj ha hLj e => ?_
  · refine ⟨cs, el, (0, 0), by simp [heap_push], fun j v hv => ?_, fun _ => ⟨by simp, by simpa using hn, fun o _ => by simp⟩⟩
    obtain ⟨v', h1, h2, h3⟩ := hc j v hv
    exact ⟨v', by simpa using h1, h2.mono (Sig.le_put hσ), h3⟩
  · obtain ⟨L', h1, h2⟩ := h.blk j bj hbj ha
    rw [hLj] at h1; cases h1
    have := h2.lt ha
    simp at e
    omega
theorem Inv.allocMap (h : Inv W lim σ H w) {dest : Option Nat} {H' : Heap} {i : Nat} (hp : place dest (.map []) H = (i, H')) (hd : ∀ d, dest = some d → d < H.length ∧ σ d = none) :
    Inv W lim (σ.put i ⟨w.heap.size, 0, 0⟩) H' (w.alloc (.map #[] 0)) ∧ σ i = none := by
  obtain ⟨g1, g2, g3, g4, g5, g6, g7⟩ := place_get hp fun d e => (hd d e).1
  have hσ : σ i = none := by
    cases dest with
    | none => rw [g5 rfl]; exact h.dom _ (Nat.le_refl _)
    | some d => rw [(g6 d rfl).1]; exact (hd d rfl).2
  refine ⟨?_, hσ⟩
  have hw : Inv W lim σ H (w.alloc (.map #[] 0)) := h.world (by simp) fun b hb => by rw [heap_push, Array.getElem?_push]; rw [if_neg (by omega)]
  refine hw.adopt g1 g2 g4 hσ ?_ rfl (h.fresh _ (Nat.le_refl _)) fun j bj Lj hji hbj ha hLj e => ?_
  · exact ⟨#[], 0, by simp [heap_push], by simp, fun j e e' h1 h2 => by simp at h1⟩
  · obtain ⟨L', h1, h2⟩ := h.blk j bj hbj ha
    rw [hLj] at h1; cases h1
    have := h2.lt ha
    simp at e
    omega
end
end Go.AM
