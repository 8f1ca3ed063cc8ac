/-
  The abstract machine, part 16: in a region that draws its order, any order gives what the order of the text gives.
-/
import Derived.Test.YtlmoijifgbkapaaAm2
set_option linter.unusedVariables false
set_option linter.unusedSimpArgs false
namespace Go.AM

theorem mask_length (base : Nat) : ∀ (l : List Nat) (H : Heap), (maskH base l H).length = H.length
  | [], _ => rfl
  | i :: l, H => by simp only [maskH, List.foldl_cons]; exact (mask_length base l _).trans (by simp)
theorem unmask_length (base : Nat) (H0 : Heap) : ∀ (l : List Nat) (H : Heap), (unmaskH base l H0 H).length = H.length
  | [], _ => rfl
  | i :: l, H => by simp only [unmaskH, List.foldl_cons]; exact (unmask_length base H0 l _).trans (by simp)
theorem mask_out (base : Nat) {j : Nat} : ∀ (l : List Nat) (H : Heap), (∀ i ∈ l, base + i ≠ j) → (maskH base l H)[j]? = H[j]?
  | [], _, _ => rfl
  | i :: l, H, h => by
    simp only [maskH, List.foldl_cons]
    have := mask_out base (j := j) l (H.set (base + i) .dead) fun k hk => h k (List.mem_cons_of_mem _ hk)
    simp only [maskH] at this
    rw [this, List.getElem?_set, if_neg (h i List.mem_cons_self)]
theorem mask_in (base : Nat) {j : Nat} : ∀ (l : List Nat) (H : Heap), (∃ i ∈ l, base + i = j) → j < H.length → (maskH base l H)[j]? = some .dead
  | [], _, h, _ => by simp at h
  | i :: l, H, h, hj => by
    simp only [maskH, List.foldl_cons]
    by_cases hl : ∃ k ∈ l, base + k = j
    · exact mask_in base l _ hl (by simpa using hj)
    · have h0 : base + i = j := by
        obtain ⟨k, hk, e⟩ := h
        rcases List.mem_cons.1 hk with rfl | hk
        · exact e
        · exact absurd ⟨k, hk, e⟩ hl
      have := mask_out base (j := j) l (H.set (base + i) .dead) fun k hk e => hl ⟨k, hk, e⟩
      simp only [maskH] at this
      rw [this, List.getElem?_set, if_pos h0, if_pos (by omega)]
theorem unmask_out (base : Nat) (H0 : Heap) {j : Nat} : ∀ (l : List Nat) (H : Heap), (∀ i ∈ l, base + i ≠ j) → (unmaskH base l H0 H)[j]? = H[j]?
  | [], _, _ => rfl
  | i :: l, H, h => by
    simp only [unmaskH, List.foldl_cons]
    have := unmask_out base H0 (j := j) l (H.set (base + i) (hget H0 (base + i))) fun k hk => h k (List.mem_cons_of_mem _ hk)
    simp only [unmaskH] at this
    rw [this, List.getElem?_set, if_neg (h i List.mem_cons_self)]
theorem unmask_in (base : Nat) (H0 : Heap) {j : Nat} : ∀ (l : List Nat) (H : Heap), (∃ i ∈ l, base + i = j) → j < H.length → (unmaskH base l H0 H)[j]? = some (hget H0 j)
  | [], _, h, _ => by simp at h
  | i :: l, H, h, hj => by
    simp only [unmaskH, List.foldl_cons]
    by_cases hl : ∃ k ∈ l, base + k = j
    · exact unmask_in base H0 l _ hl (by simpa using hj)
    · have h0 : base + i = j := by
        obtain ⟨k, hk, e⟩ := h
        rcases List.mem_cons.1 hk with rfl | hk
        · exact e
        · exact absurd ⟨k, hk, e⟩ hl
      have := unmask_out base H0 (j := j) l (H.set (base + i) (hget H0 (base + i))) fun k hk e => hl ⟨k, hk, e⟩
      simp only [unmaskH] at this
      rw [this, List.getElem?_set, if_pos h0, if_pos (by omega), h0]
theorem hget_lt {H : Heap} {j : Nat} (h : j < H.length) : H[j]? = some (hget H j) := by
  unfold hget
  rw [List.getD_eq_getElem?_getD, List.getElem?_eq_getElem h]
  rfl
theorem unmask_mask (base : Nat) (l : List Nat) (H : Heap) : unmaskH base l H (maskH base l H) = H := by
  apply List.ext_getElem?
  intro j
  by_cases hj : j < H.length
  · by_cases hl : ∃ i ∈ l, base + i = j
    · rw [unmask_in base H l _ hl (by rw [mask_length]; exact hj), hget_lt hj]
    · have hl' : ∀ i ∈ l, base + i ≠ j := fun i hi e => hl ⟨i, hi, e⟩
      rw [unmask_out base H l _ hl', mask_out base l _ hl']
  · rw [List.getElem?_eq_none (by rw [unmask_length, mask_length]; omega), List.getElem?_eq_none (by omega)]
theorem mask_set (base : Nat) (l : List Nat) (H : Heap) {r : Nat} (hr : r ∈ l) (b : Blk) : maskH base l (H.set (base + r) b) = maskH base l H := by
  apply List.ext_getElem?
  intro j
  by_cases hj : j < H.length
  · by_cases hl : ∃ i ∈ l, base + i = j
    · rw [mask_in base l _ hl (by simpa using hj), mask_in base l _ hl hj]
    · have hl' : ∀ i ∈ l, base + i ≠ j := fun i hi e => hl ⟨i, hi, e⟩
      rw [mask_out base l _ hl', mask_out base l _ hl', List.getElem?_set, if_neg (hl' r hr)]
  · rw [List.getElem?_eq_none (by rw [mask_length]; simp; omega), List.getElem?_eq_none (by rw [mask_length]; omega)]
theorem unmask_set (base : Nat) (l : List Nat) (H X : Heap) {r : Nat} (hr : r ∈ l) (b : Blk) (hX : X.length = H.length) : unmaskH base l (H.set (base + r) b) X = (unmaskH base l H X).set (base + r) b := by
  apply List.ext_getElem?
  intro j
  by_cases hj : j < H.length
  · by_cases hl : ∃ i ∈ l, base + i = j
    · rw [unmask_in base _ l _ hl (by omega), List.getElem?_set]
      by_cases e : base + r = j
      · subst e
        rw [if_pos rfl, if_pos (by rw [unmask_length]; omega)]
        have : (H.set (base + r) b)[base + r]? = some b := by rw [List.getElem?_set, if_pos rfl, if_pos hj]
        unfold hget
        rw [List.getD_eq_getElem?_getD, this]; rfl
      · rw [if_neg e, unmask_in base _ l _ hl (by omega)]
        unfold hget
        rw [List.getD_eq_getElem?_getD, List.getD_eq_getElem?_getD, List.getElem?_set, if_neg e]
    · have hl' : ∀ i ∈ l, base + i ≠ j := fun i hi e => hl ⟨i, hi, e⟩
      rw [unmask_out base _ l _ hl', List.getElem?_set, if_neg (hl' r hr), unmask_out base _ l _ hl']
  · rw [List.getElem?_eq_none (by rw [unmask_length]; omega), List.getElem?_eq_none (by simp [unmask_length]; omega)]

/-! ### What each kind of operation does with the heap -/
theorem place_some {d : Nat} {b : Blk} {H : Heap} : place (some d) b H = (d, H.set d b) := rfl

theorem kind_p' {o : AOp} (hk : kind o = .p) (lim : Nat) (dest : Option Nat) (ρ : Operand → Value) (H : Heap) :
    aOp lim dest o ρ H = ((aOp lim dest o ρ []).map (·.1)).map (·, H) := by
  cases o <;> simp [kind] at hk <;> simp only [aOp]
  case mov => rfl
  case lenK => rfl
  case makeFunc => rfl
  case pick c a b => cases ρ c <;> first | rfl | (rename_i b; cases b <;> rfl)
  case bin op x y => cases aBin op (ρ x) (ρ y) <;> rfl
  case eqv neg k x y => cases aEq k (ρ x) (ρ y) <;> rfl
  case un op x => cases aUn op (ρ x) <;> rfl
  case conv k x => cases ρ x <;> rfl
  case build z ps => cases fillParts ρ ps z <;> rfl
  case nilCheck x => cases ρ x <;> first | rfl | (rename_i a; cases a <;> rfl) | (rename_i f a b; cases f <;> rfl)
  case fieldAddr o x => cases ρ x <;> first | rfl | (rename_i a; cases a <;> rfl)
  case field1 o x => cases ρ x <;> first | rfl | (rename_i cs; simp only []; cases cs.toList[o]? <;> rfl)
  case fieldN o n x => cases ρ x <;> rfl
  case idxAddrA l e x i => split <;> first | rfl | (split <;> rfl)
  case idxAddrS e x i => split <;> first | rfl | (split <;> rfl)
  case idxA l e ag x i =>
    split
    · split
      · split
        · rfl
        · simp [Function.comp_def]
      · rfl
    · rfl
  case idxStr x i =>
    split
    · split
      · simp [Function.comp_def]
      · rfl
    · rfl
  case sliceS e x lo hi mx => cases aSliceS e ρ (ρ x) lo hi mx <;> rfl
  case sliceA n e x lo hi mx =>
    split
    · split
      · split <;> rfl
      · rfl
    · rfl
  case sliceStr x lo hi =>
    split
    · split <;> rfl
    · rfl
  case lenStr x => cases ρ x <;> rfl
  case lenSlice x => cases ρ x <;> rfl
  case minmax mx xs =>
    cases xs with
    | nil => rfl
    | cons x r => simp only []; cases aMinMaxAll mx (ρ x) (r.map ρ) <;> rfl
  case extract i x => cases ρ x <;> first | rfl | (rename_i vs; simp only []; cases vs.toList[i]? <;> rfl)
  case strId x => cases ρ x <;> rfl
  case call mp f args => split at hk <;> cases hk

theorem kind_p {o : AOp} (hk : kind o = .p) {lim : Nat} {dest : Option Nat} {ρ : Operand → Value} {H H' : Heap} {v : Value} (h : aOp lim dest o ρ H = some (v, H')) :
    H' = H ∧ ∀ H2, aOp lim dest o ρ H2 = some (v, H2) := by
  rw [kind_p' hk] at h
  cases hg : (aOp lim dest o ρ []).map (·.1) with
  | none => rw [hg] at h; cases h
  | some c =>
    rw [hg] at h
    cases h
    exact ⟨rfl, fun H2 => by rw [kind_p' hk, hg]; rfl⟩

theorem kind_r {o : AOp} (hk : kind o = .r) (hc : ∀ mp f args, o ≠ .call mp f args) {lim : Nat} {dest : Option Nat} {ρ : Operand → Value} {H H' : Heap} {v : Value} (h : aOp lim dest o ρ H = some (v, H')) : H' = H := by
  have fin : ∀ {x : Option Value}, (x.map fun c => (c, H)) = some (v, H') → H' = H := by
    intro x h
    cases x with
    | none => cases h
    | some c => cases h; rfl
  cases o <;> simp [kind] at hk <;> simp only [aOp] at h
  case load1 => split at h; exact fin h; cases h
  case loadN =>
    split at h
    · simp only [Option.map_eq_some_iff, Prod.mk.injEq] at h; obtain ⟨_, _, _, h⟩ := h; exact h.symm
    · cases h
  case lenMap => simp only [Option.map_eq_some_iff, Prod.mk.injEq] at h; obtain ⟨_, _, _, h⟩ := h; exact h.symm
  case lookup =>
    split at h
    · split at h
      · split at h <;> cases h <;> rfl
      · cases h
    · cases h
  case b2s =>
    split at h
    · split at h <;> cases h; rfl
    · split at h
      · split at h <;> cases h; rfl
      · cases h
    · cases h
  case call => cases h

theorem kind_a {o : AOp} (hk : kind o = .a) {lim d : Nat} {ρ : Operand → Value} {H H' : Heap} {v : Value} (h : aOp lim (some d) o ρ H = some (v, H')) :
    ∃ b, H' = H.set d b ∧ ∀ H2, aOp lim (some d) o ρ H2 = some (v, H2.set d b) := by
  cases o <;> simp [kind] at hk <;> simp only [aOp, place_some] at h ⊢
  case alloc => cases h; exact ⟨_, rfl, fun _ => rfl⟩
  case box x =>
    split at h
    case isFalse => cases h
    rename_i ht
    cases h
    exact ⟨_, rfl, fun _ => by rw [if_pos ht]⟩
  case buildSlice =>
    split at h
    case h_2 => cases h
    cases h
    exact ⟨_, rfl, fun _ => rfl⟩
  case makeSlice =>
    split at h
    case h_2 => cases h
    split at h
    case isFalse => cases h
    rename_i hc
    cases h
    exact ⟨_, rfl, fun _ => by rw [if_pos hc]⟩
  case makeMap =>
    split at h
    case h_2 => cases h
    cases h
    exact ⟨_, rfl, fun _ => rfl⟩
  case call mp f args => split at hk <;> cases hk

/-- The operands are all that an operation looks at. -/
theorem aOp_congr {o : AOp} {lim : Nat} {dest : Option Nat} {ρ ρ' : Operand → Value} {H : Heap} (h : ∀ x ∈ o.operands, ρ x = ρ' x) : aOp lim dest o ρ H = aOp lim dest o ρ' H := by
  have fp : ∀ (ps : List (Nat × Nat × Operand)) (c : List Value), (∀ x ∈ ps.map (·.2.2), ρ x = ρ' x) → fillParts ρ ps c = fillParts ρ' ps c := by
    intro ps
    induction ps with
    | nil => intro c _; rfl
    | cons p ps ih =>
      intro c hp
      obtain ⟨o, s, x⟩ := p
      simp only [fillParts, hp x (by simp)]
      split
      · exact ih _ fun y hy => hp y (by simp at hy ⊢; exact .inr hy)
      · rfl
  have bd : ∀ (len cap : Nat) (lo hi mx : Option Operand), (∀ x ∈ lo.toList ++ hi.toList ++ mx.toList, ρ x = ρ' x) → bounds ρ len cap lo hi mx = bounds ρ' len cap lo hi mx := by
    intro len cap lo hi mx hb
    cases lo <;> cases hi <;> cases mx <;> simp at hb <;> unfold bounds <;> (try simp only [hb])
  cases o <;> simp only [AOp.operands] at h <;> simp only [aOp]
  case build z ps => rw [fp ps z h]
  case buildSlice n z ps => rw [fp ps z h]
  case sliceS e x lo hi mx =>
    have hx := h x (by simp)
    have hb := fun len cap => bd len cap lo hi mx fun y hy => h y (List.mem_cons_of_mem _ hy)
    simp only [hx, aSliceS, hb]
  case sliceA n e x lo hi mx =>
    have hx := h x (by simp)
    have hb := fun len cap => bd len cap lo hi mx fun y hy => h y (List.mem_cons_of_mem _ hy)
    simp only [hx, hb]
  case sliceStr x lo hi =>
    have hx := h x (by simp)
    have hb := fun len cap => bd len cap lo hi none fun y hy => h y (List.mem_cons_of_mem _ (by simpa using hy))
    simp only [hx, hb]
  case minmax mx xs =>
    cases xs with
    | nil => rfl
    | cons x r => simp only [h x (by simp), List.map_congr_left fun y hy => h y (List.mem_cons_of_mem _ hy)]
  case makeMap hint =>
    cases hint with
    | none => rfl
    | some x => simp only [h x (by simp)]
  case makeFunc f a b =>
    rw [List.map_congr_left fun y hy => h y (by simp [hy]), List.map_congr_left (l := b) fun y hy => h y (by simp [hy])]
  all_goals (first | rfl | (simp only [List.mem_cons, List.not_mem_nil, or_false, forall_eq_or_imp, forall_eq] at h; simp only [h]))
end Go.AM
