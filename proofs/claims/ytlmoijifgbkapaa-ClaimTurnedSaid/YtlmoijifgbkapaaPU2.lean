/-
  Joined texts, 2 of 9. A part of the claim that the last text states.
-/
import Derived.Below
import Derived.Test.YtlmoijifgbkapaaPU1
set_option linter.unusedVariables false
set_option linter.unusedSimpArgs false
namespace Go.AM

/-- A call where purity is asked leaves the heap; any call keeps the heap's places. -/
structure CallOk0 (C : CallF) : Prop where
  pure : ∀ lim g as H v H', C true lim g as H = some (v, H') → H' = H
  len : ∀ mp lim g as H v H', C mp lim g as H = some (v, H') → lim ≤ H.length → H.length ≤ H'.length

theorem storeAt_len {lim : Nat} {H H' : Heap} {a : Addr} {vs : List Value} (h : storeAt lim H a vs = some H') : H'.length = H.length := by
  unfold storeAt at h
  split at h
  · split at h
    · cases h; simp
    · cases h
  · cases h
theorem kind_w_len {o : AOp} (hk : kind o = .w) {lim d : Nat} {ρ : Operand → Value} {H H' : Heap} {v : Value} (h : aOp lim (some d) o ρ H = some (v, H')) : H'.length = H.length := by
  cases o <;> simp [kind] at hk <;> simp only [aOp] at h
  case store =>
    split at h
    · split at h
      · simp only [Option.map_eq_some_iff, Prod.mk.injEq] at h; obtain ⟨_, h1, _, rfl⟩ := h; exact storeAt_len h1
      · cases h
    · cases h
  case append =>
    unfold aAppend at h
    split at h
    case h_2 => cases h
    split at h
    · cases h
    split at h
    · cases h; rfl
    split at h
    · split at h
      · simp only [place_some] at h; cases h; simp
      · cases h
    · split at h
      · cases h
      split at h
      · split at h
        · split at h
          · simp only [place_some] at h; cases h; simp
          · cases h
        · cases h
      · split at h
        · split at h
          · split at h
            · rename_i h1; cases h; exact storeAt_len h1
            · cases h
          · simp only [place_some] at h; cases h; simp
        · cases h
  case copy =>
    split at h
    · split at h
      · split at h
        · split at h
          · cases h; rfl
          · simp only [Option.map_eq_some_iff, Prod.mk.injEq] at h; obtain ⟨_, h1, _, rfl⟩ := h; exact storeAt_len h1
        · split at h
          · cases h; rfl
          · cases h
      · cases h
    · cases h
  case mapUpdate =>
    split at h
    · split at h
      · split at h
        · split at h <;> cases h <;> simp
        · cases h
      · cases h
    · cases h
  case delete =>
    split at h
    · split at h <;> cases h; rfl
    · split at h
      · split at h
        · split at h <;> cases h <;> simp
        · cases h
      · cases h
    · cases h
  case call => split at hk <;> cases hk

/-- A planned operation. -/
structure Planned (x : AIns) : Prop where
  bare : kind x.op = .p ∨ kind x.op = .a ∨ kind x.op = .c → x.mask = []
  dest : makes x.op = true → ∃ r, x.dest = some r
  nodest : makes x.op = false → x.dest = none

theorem makes_a {o : AOp} (h : kind o = .a) : makes o = true := by cases o <;> simp_all [makes, kind]

theorem kind_w_len' {o : AOp} (hk : kind o = .w) (hm : makes o = false) {lim : Nat} {dest : Option Nat} {ρ : Operand → Value} {H H' : Heap} {v : Value} (h : aOp lim dest o ρ H = some (v, H')) : H'.length = H.length := by
  have key : aOp lim dest o ρ H = aOp lim (some 0) o ρ H := by
    cases o <;> simp [kind] at hk <;> simp [makes] at hm <;> rfl
  rw [key] at h
  exact kind_w_len hk h

section
variable {C : CallF} {N lim base : Nat}

/-- Without the guard. -/
def bodyVal (C : CallF) (lim base : Nat) (i : AIns) (ρ : Operand → Value) (H : Heap) : Option (Value × Heap) :=
  match stepOp C lim (i.dest.map (base + ·)) i.op ρ (maskH base i.mask H) with
  | some (v, H') => some (v, unmaskH base i.mask H H')
  | none => none
theorem insVal_some {i : AIns} {fr : Nat → Value} {H : Heap} : insVal C N lim (some base) i fr H =
    match wantedA N fr i.guard with
    | none => none
    | some false => some (undef, H)
    | some true => bodyVal C lim base i (ev fr) H := rfl

theorem stepOp_plain {o : AOp} (h : ∀ mp f args, o ≠ .call mp f args) (dest : Option Nat) (ρ : Operand → Value) (H : Heap) : stepOp C lim dest o ρ H = aOp lim dest o ρ H := by
  cases o <;> first | rfl | (exact absurd rfl (h _ _ _))

theorem kind_call {o : AOp} (h : ∃ mp f args, o = .call mp f args) : kind o = .r ∨ kind o = .c := by
  obtain ⟨mp, f, args, rfl⟩ := h
  cases mp <;> simp [kind]
theorem not_call {o : AOp} (h : kind o = .p ∨ kind o = .a ∨ kind o = .w) : ∀ mp f args, o ≠ .call mp f args := fun mp f args e => by
  rcases kind_call ⟨mp, f, args, e⟩ with h' | h' <;> rw [h'] at h <;> simp at h

theorem body_p {i : AIns} (hp : Planned i) (hk : kind i.op = .p) (ρ : Operand → Value) (H : Heap) : bodyVal C lim base i ρ H = ((aOp lim (i.dest.map (base + ·)) i.op ρ []).map (·.1)).map (·, H) := by
  unfold bodyVal
  rw [hp.bare (.inl hk), stepOp_plain (not_call (.inl hk))]
  simp only [maskH, unmaskH, List.foldl_nil]
  rw [kind_p' hk]
  cases (Option.map (fun x => x.1) (aOp lim (Option.map (fun x => base + x) i.dest) i.op ρ [])) <;> rfl

theorem body_r (hC : CallOk0 C) {i : AIns} (hk : kind i.op = .r) {ρ : Operand → Value} {H H' : Heap} {v : Value} (h : bodyVal C lim base i ρ H = some (v, H')) : H' = H := by
  unfold bodyVal at h
  split at h
  case h_2 => cases h
  rename_i v1 H1 h1
  cases h
  have : H1 = maskH base i.mask H := by
    by_cases hc : ∃ mp f args, i.op = .call mp f args
    · obtain ⟨mp, f, args, hc⟩ := hc
      rw [hc] at h1 hk
      have hmp : mp = true := by cases mp <;> simp [kind] at hk ⊢
      subst hmp
      simp only [stepOp] at h1
      split at h1
      · exact hC.pure _ _ _ _ _ _ h1
      · cases h1
    · rw [stepOp_plain (fun mp f args e => hc ⟨mp, f, args, e⟩)] at h1
      exact kind_r hk (fun mp f args e => hc ⟨mp, f, args, e⟩) h1
  rw [this, unmask_mask]

theorem body_a {i : AIns} (hp : Planned i) (hk : kind i.op = .a) {r : Nat} (hr : i.dest = some r) {ρ : Operand → Value} {H H' : Heap} {v : Value} (h : bodyVal C lim base i ρ H = some (v, H')) :
    ∃ b, H' = H.set (base + r) b ∧ ∀ H2, bodyVal C lim base i ρ H2 = some (v, H2.set (base + r) b) := by
  unfold bodyVal at h ⊢
  rw [hp.bare (.inr (.inl hk)), stepOp_plain (not_call (.inr (.inl hk))), hr] at h
  simp only [maskH, unmaskH, List.foldl_nil, Option.map_some] at h
  split at h
  case h_2 => cases h
  rename_i v1 H1 h1
  cases h
  obtain ⟨b, e1, e2⟩ := kind_a hk h1
  refine ⟨b, e1, fun H2 => ?_⟩
  rw [hp.bare (.inr (.inl hk)), stepOp_plain (not_call (.inr (.inl hk))), hr]
  simp only [maskH, unmaskH, List.foldl_nil, Option.map_some, e2]

theorem kind_n_len {o : AOp} (hk : kind o = .n) {lim d : Nat} {ρ : Operand → Value} {H H' : Heap} {v : Value} (h : aOp lim (some d) o ρ H = some (v, H')) : H'.length = H.length := by
  rcases kind_n hk h with rfl | ⟨b, rfl⟩
  · rfl
  · simp
theorem makes_n {o : AOp} (h : kind o = .n) : makes o = true := by
  cases o <;> (try (simp_all [makes, kind]; done))
  rename_i mp f args
  cases mp <;> simp [kind] at h
theorem unmask_set_mask (base : Nat) (l : List Nat) (H : Heap) (d : Nat) (b : Blk) : unmaskH base l H ((maskH base l H).set d b) = H ∨ unmaskH base l H ((maskH base l H).set d b) = H.set d b := by
  by_cases hd : ∃ i ∈ l, base + i = d
  · left
    apply List.ext_getElem?
    intro j
    by_cases hj : j < H.length
    · by_cases hl : ∃ i ∈ l, base + i = j
      · rw [unmask_in base H l _ hl (by simp [mask_length]; exact hj), hget_lt hj]
      · have hl' : ∀ i ∈ l, base + i ≠ j := fun i hi e => hl ⟨i, hi, e⟩
        rw [unmask_out base H l _ hl', List.getElem?_set, if_neg (fun e => hl (by rw [← e]; exact hd)), mask_out base l _ hl']
    · rw [List.getElem?_eq_none (by rw [unmask_length]; simp [mask_length]; omega), List.getElem?_eq_none (by omega)]
  · right
    apply List.ext_getElem?
    intro j
    by_cases hj : j < H.length
    · by_cases hl : ∃ i ∈ l, base + i = j
      · rw [unmask_in base H l _ hl (by simp [mask_length]; exact hj), List.getElem?_set, if_neg (fun e => hd (by rw [e]; exact hl)), hget_lt hj]
      · have hl' : ∀ i ∈ l, base + i ≠ j := fun i hi e => hl ⟨i, hi, e⟩
        rw [unmask_out base H l _ hl', List.getElem?_set, List.getElem?_set, mask_length, mask_out base l _ hl']
    · rw [List.getElem?_eq_none (by rw [unmask_length]; simp [mask_length]; omega), List.getElem?_eq_none (by simp; omega)]
/-- An operation that makes a block out of what it reads. -/
theorem body_n {i : AIns} (hp : Planned i) (hk : kind i.op = .n) {ρ : Operand → Value} {H H' : Heap} {v : Value} (h : bodyVal C lim base i ρ H = some (v, H')) :
    ∃ r, i.dest = some r ∧ (H' = H ∨ ∃ b, H' = H.set (base + r) b) := by
  obtain ⟨r, hr⟩ := hp.dest (makes_n hk)
  refine ⟨r, hr, ?_⟩
  unfold bodyVal at h
  have hnc : ∀ mp f args, i.op ≠ .call mp f args := fun mp f args e => by rw [e] at hk; cases mp <;> simp [kind] at hk
  rw [stepOp_plain hnc, hr] at h
  simp only [Option.map_some] at h
  split at h
  case h_2 => cases h
  rename_i v1 H1 h1
  cases h
  rcases kind_n hk h1 with rfl | ⟨b, rfl⟩
  · rw [unmask_mask]; exact .inl rfl
  · rcases unmask_set_mask base i.mask H (base + r) b with e | e
    · exact .inl e
    · exact .inr ⟨b, e⟩

/-- Reading and writing: a place that is masked may hold anything. -/
theorem body_masked (hC : CallOk0 C) {i : AIns} (hp : Planned i) (hk : kind i.op = .r ∨ kind i.op = .w ∨ kind i.op = .n) {r : Nat} (hr : r ∈ i.mask) (ρ : Operand → Value) (H : Heap) (b : Blk) :
    bodyVal C lim base i ρ (H.set (base + r) b) = (bodyVal C lim base i ρ H).map fun p => (p.1, p.2.set (base + r) b) := by
  unfold bodyVal
  rw [mask_set base i.mask H hr b]
  cases hs : stepOp C lim (i.dest.map (base + ·)) i.op ρ (maskH base i.mask H) with
  | none => rfl
  | some p =>
    obtain ⟨v, X⟩ := p
    simp only [Option.map_some]
    have hX : X.length = H.length := by
      rw [← mask_length base i.mask H]
      by_cases hc : ∃ mp f args, i.op = .call mp f args
      · obtain ⟨mp, f, args, hc⟩ := hc
        rw [hc] at hs hk
        have hmp : mp = true := by cases mp <;> simp [kind] at hk ⊢
        subst hmp
        simp only [stepOp] at hs
        split at hs
        · rw [hC.pure _ _ _ _ _ _ hs]
        · cases hs
      · have hnc : ∀ mp f args, i.op ≠ .call mp f args := fun mp f args e => hc ⟨mp, f, args, e⟩
        rw [stepOp_plain hnc] at hs
        rcases hk with hk | hk | hk
        · rw [kind_r hk hnc hs]
        · cases hm : makes i.op with
          | true =>
            obtain ⟨r', hr'⟩ := hp.dest hm
            rw [hr'] at hs
            exact kind_w_len hk hs
          | false => exact kind_w_len' hk hm hs
        · obtain ⟨r', hr'⟩ := hp.dest (makes_n hk)
          rw [hr'] at hs
          exact kind_n_len hk hs
    rw [unmask_set base i.mask H X hr b hX]

/-- Two operations that do not touch each other. -/
structure Sep (x y : AIns) : Prop where
  apart : apartA x y = true
  calm : conflict (kind x.op) (kind y.op) = false
  maskY : (kind y.op = .r ∨ kind y.op = .w ∨ kind y.op = .n) → ∀ r, x.dest = some r → r ∈ y.mask
  maskX : (kind x.op = .r ∨ kind x.op = .w ∨ kind x.op = .n) → ∀ r, y.dest = some r → r ∈ x.mask
  dests : ∀ r, x.dest = some r → y.dest ≠ some r

theorem Sep.symm {x y : AIns} (h : Sep x y) : Sep y x := by
  refine ⟨?_, ?_, h.maskX, h.maskY, fun r h1 h2 => h.dests r h2 h1⟩
  · have := h.apart
    unfold apartA at this ⊢
    cases hx : x.dst with
    | none => cases hy : y.dst <;> simp [hx, hy] at this ⊢; exact this
    | some d =>
      cases hy : y.dst with
      | none => simp [hx, hy] at this ⊢; exact this
      | some e =>
        simp [hx, hy] at this ⊢
        exact ⟨⟨this.2, fun h => this.1.2 h.symm⟩, this.1.1⟩
  · have := h.calm
    cases kx : kind x.op <;> cases ky : kind y.op <;> simp_all [conflict]

theorem looks_op {i : AIns} {t : Nat} (h : Operand.tmp t ∈ i.op.operands) : t ∈ i.looks := by
  unfold AIns.looks
  exact List.mem_append_left _ (List.mem_filterMap.2 ⟨.tmp t, h, rfl⟩)
theorem looks_guard {i : AIns} {t : Nat} {b : Bool} (h : i.guard = some (t, b)) : t ∈ i.looks := by
  unfold AIns.looks
  rw [h]
  exact List.mem_append_right _ (by simp)

theorem stepOp_congr {o : AOp} {dest : Option Nat} {ρ ρ' : Operand → Value} {H : Heap} (h : ∀ x ∈ o.operands, ρ x = ρ' x) : stepOp C lim dest o ρ H = stepOp C lim dest o ρ' H := by
  by_cases hc : ∃ mp f args, o = .call mp f args
  · obtain ⟨mp, f, args, rfl⟩ := hc
    simp only [AOp.operands] at h
    simp only [stepOp, h f (by simp), List.map_congr_left fun y hy => h y (List.mem_cons_of_mem _ hy)]
  · have hnc : ∀ mp f args, o ≠ .call mp f args := fun mp f args e => hc ⟨mp, f, args, e⟩
    rw [stepOp_plain hnc, stepOp_plain hnc]
    exact aOp_congr h

/-- A slot that is not looked at may hold anything. -/
theorem insVal_upd {b : Option Nat} {i : AIns} {fr : Nat → Value} {H : Heap} {d : Nat} {v : Value} (h : d ∉ i.looks) : insVal C N lim b i (upd fr d v) H = insVal C N lim b i fr H := by
  have hw : wantedA N (upd fr d v) i.guard = wantedA N fr i.guard := by
    cases hg : i.guard with
    | none => rfl
    | some g =>
      obtain ⟨t, b⟩ := g
      have : t ≠ d := fun e => h (e ▸ looks_guard hg)
      simp [wantedA, upd, this]
  have he : ∀ x ∈ i.op.operands, ev (upd fr d v) x = ev fr x := fun x hx => by
    cases x with
    | tmp t =>
      have : t ≠ d := fun e => h (e ▸ looks_op hx)
      simp [ev, upd, this]
    | _ => rfl
  unfold insVal
  rw [hw]
  cases b with
  | none => simp only [stepOp_congr (C := C) (lim := lim) he]
  | some b => simp only [stepOp_congr (C := C) (lim := lim) he]

theorem insVal_put {b : Option Nat} {i : AIns} {fr fr' : Nat → Value} {H : Heap} {dst : Option Nat} {v : Value} (hp : putD N fr dst v = some fr') (h : ∀ d, dst = some d → d ∉ i.looks) : insVal C N lim b i fr' H = insVal C N lim b i fr H := by
  cases dst with
  | none => cases hp; rfl
  | some d =>
    simp only [putD] at hp
    split at hp
    · cases hp; exact insVal_upd (h d rfl)
    · cases hp

theorem put_comm {fr fr1 fr2 : Nat → Value} {x y : Option Nat} {v u : Value} (h1 : putD N fr x v = some fr1) (h2 : putD N fr1 y u = some fr2) (hne : ∀ d, x = some d → y ≠ some d) :
    ∃ fr1', putD N fr y u = some fr1' ∧ putD N fr1' x v = some fr2 := by
  cases x with
  | none => cases h1; exact ⟨fr2, h2, rfl⟩
  | some d =>
    cases y with
    | none => cases h2; exact ⟨fr, rfl, h1⟩
    | some e =>
      simp only [putD] at h1 h2
      split at h1
      case isFalse => cases h1
      rename_i hd
      split at h2
      case isFalse => cases h2
      rename_i he
      cases h1; cases h2
      refine ⟨upd fr e u, by simp [putD, he], ?_⟩
      have hde : d ≠ e := fun h => hne d rfl (by rw [h])
      simp only [putD, hd, if_true, Option.some.injEq]
      funext t
      simp only [upd]
      by_cases h1 : t = d
      · subst h1; simp [hde]
      · simp [h1]

/-- The heaps of two operations that change places. -/
theorem vals_swap (hC : CallOk0 C) {x y : AIns} (hx : Planned x) (hy : Planned y) (hs : Sep x y) {fr : Nat → Value} {H H1 H2 : Heap} {v u : Value} (h1 : insVal C N lim (some base) x fr H = some (v, H1)) (h2 : insVal C N lim (some base) y fr H1 = some (u, H2)) :
    ∃ H1', insVal C N lim (some base) y fr H = some (u, H1') ∧ insVal C N lim (some base) x fr H1' = some (v, H2) := by
  rw [insVal_some] at h1 h2
  cases gx : wantedA N fr x.guard with
  | none => rw [gx] at h1; cases h1
  | some wx =>
  cases gy : wantedA N fr y.guard with
  | none => rw [gy] at h2; cases h2
  | some wy =>
  rw [gx] at h1
  rw [gy] at h2
  cases wx with
  | false => cases h1; exact ⟨H2, by rw [insVal_some, gy]; exact h2, by rw [insVal_some, gx]⟩
  | true =>
  cases wy with
  | false => cases h2; exact ⟨H, by rw [insVal_some, gy], by rw [insVal_some, gx]; exact h1⟩
  | true =>
  simp only at h1 h2
  suffices hh : ∃ H1', bodyVal C lim base y (ev fr) H = some (u, H1') ∧ bodyVal C lim base x (ev fr) H1' = some (v, H2) by
    obtain ⟨H1', e1, e2⟩ := hh
    exact ⟨H1', by rw [insVal_some, gy]; exact e1, by rw [insVal_some, gx]; exact e2⟩
  have pcase : ∀ {i : AIns} (hp : Planned i) (hk : kind i.op = .p) {A B : Heap} {z : Value}, bodyVal C lim base i (ev fr) A = some (z, B) → B = A ∧ ∀ D, bodyVal C lim base i (ev fr) D = some (z, D) := by
    intro i hp hk A B z h
    rw [body_p hp hk] at h
    cases hg : (aOp lim (i.dest.map (base + ·)) i.op (ev fr) []).map (·.1) with
    | none => rw [hg] at h; cases h
    | some c => rw [hg] at h; cases h; exact ⟨rfl, fun D => by rw [body_p hp hk, hg]; rfl⟩
  by_cases kxp : kind x.op = .p
  · obtain ⟨rfl, hall⟩ := pcase hx kxp h1
    exact ⟨H2, h2, hall H2⟩
  by_cases kyp : kind y.op = .p
  · obtain ⟨rfl, hall⟩ := pcase hy kyp h2
    exact ⟨H, hall H, h1⟩
  have hcalm := hs.calm
  by_cases kxa : kind x.op = .a
  · obtain ⟨r, hr⟩ := hx.dest (makes_a kxa)
    obtain ⟨b, rfl, hall⟩ := body_a hx kxa hr h1
    by_cases kya : kind y.op = .a
    · obtain ⟨r', hr'⟩ := hy.dest (makes_a kya)
      obtain ⟨b', rfl, hall'⟩ := body_a hy kya hr' h2
      have hne : r ≠ r' := fun e => hs.dests r hr (by rw [hr', e])
      exact ⟨_, hall' H, by rw [hall, List.set_comm _ _ (by omega)]⟩
    · have ky : kind y.op = .r ∨ kind y.op = .w ∨ kind y.op = .n := by
        cases hk : kind y.op <;> simp_all [conflict]
      rw [body_masked hC hy ky (hs.maskY ky r hr)] at h2
      cases hb : bodyVal C lim base y (ev fr) H with
      | none => rw [hb] at h2; cases h2
      | some p =>
        obtain ⟨u', H1'⟩ := p
        rw [hb] at h2
        cases h2
        exact ⟨H1', rfl, hall H1'⟩
  by_cases kya : kind y.op = .a
  · obtain ⟨r, hr⟩ := hy.dest (makes_a kya)
    obtain ⟨b, rfl, hall⟩ := body_a hy kya hr h2
    have kx : kind x.op = .r ∨ kind x.op = .w ∨ kind x.op = .n := by
      cases hk : kind x.op <;> simp_all [conflict]
    exact ⟨_, hall H, by rw [body_masked hC hx kx (hs.maskX kx r hr), h1]; rfl⟩
  -- what each of both does with the heap, and that the other one's block does not matter to it
  have two : (kind x.op = .r ∨ kind x.op = .n) ∧ (kind y.op = .r ∨ kind y.op = .n) := by
    cases hk : kind x.op <;> cases hk' : kind y.op <;> simp_all [conflict]
  by_cases hnn : kind x.op = .n ∨ kind y.op = .n
  · have sx : H1 = H ∨ ∃ r b, x.dest = some r ∧ H1 = H.set (base + r) b := by
      rcases two.1 with k | k
      · exact .inl (body_r hC k h1)
      · obtain ⟨r, hr, h | ⟨b, h⟩⟩ := body_n hx k h1
        · exact .inl h
        · exact .inr ⟨r, b, hr, h⟩
    have kx' : kind x.op = .r ∨ kind x.op = .w ∨ kind x.op = .n := by rcases two.1 with k | k <;> simp [k]
    have ky' : kind y.op = .r ∨ kind y.op = .w ∨ kind y.op = .n := by rcases two.2 with k | k <;> simp [k]
    have sy : ∀ {A B : Heap} {z : Value}, bodyVal C lim base y (ev fr) A = some (z, B) → B = A ∨ ∃ r b, y.dest = some r ∧ B = A.set (base + r) b := by
      intro A B z h
      rcases two.2 with k | k
      · exact .inl (body_r hC k h)
      · obtain ⟨r, hr, h | ⟨b, h⟩⟩ := body_n hy k h
        · exact .inl h
        · exact .inr ⟨r, b, hr, h⟩
    -- y on H, and x behind it
    have later : ∀ {u : Value} {K : Heap}, bodyVal C lim base y (ev fr) H = some (u, K) → ∃ K2, bodyVal C lim base x (ev fr) K = some (v, K2) ∧ (∀ r b, y.dest = some r → K = H.set (base + r) b → K2 = H1.set (base + r) b) ∧ (K = H → K2 = H1) := by
      intro u K hK
      rcases sy hK with rfl | ⟨r, b, hr, rfl⟩
      · refine ⟨H1, h1, fun r b hr hb => ?_, fun _ => rfl⟩
        rcases sx with rfl | ⟨r', b', hr', rfl⟩
        · exact hb
        · have hne : r' ≠ r := fun e => hs.dests r' hr' (by rw [hr, e])
          rw [List.set_comm _ _ (by omega), ← hb]
      · refine ⟨H1.set (base + r) b, by rw [body_masked hC hx kx' (hs.maskX kx' r hr), h1]; rfl, fun r' b' hr' hb => ?_, fun hb => ?_⟩
        · rw [hr] at hr'; cases hr'
          rcases sx with rfl | ⟨r2, b2, hr2, rfl⟩
          · exact hb
          · have hne : r2 ≠ r := fun e => hs.dests r2 hr2 (by rw [hr, e])
            rw [List.set_comm _ _ (by omega), List.set_comm _ _ (by omega : base + r2 ≠ base + r), hb]
        · rcases sx with rfl | ⟨r2, b2, hr2, rfl⟩
          · exact hb
          · have hne : r2 ≠ r := fun e => hs.dests r2 hr2 (by rw [hr, e])
            rw [List.set_comm _ _ (by omega), hb]
    have onH : ∃ K, bodyVal C lim base y (ev fr) H = some (u, K) ∧ (∀ r b, x.dest = some r → H1 = H.set (base + r) b → H2 = K.set (base + r) b) ∧ (H1 = H → H2 = K) := by
      rcases sx with rfl | ⟨r, b, hr, rfl⟩
      · refine ⟨H2, h2, fun r b hr hb => ?_, fun _ => rfl⟩
        rcases sy h2 with rfl | ⟨r2, b2, hr2, rfl⟩
        · exact hb
        · have hne : r ≠ r2 := fun e => hs.dests r hr (by rw [hr2, e])
          rw [List.set_comm _ _ (by omega), ← hb]
      · rw [body_masked hC hy ky' (hs.maskY ky' r hr)] at h2
        cases hb : bodyVal C lim base y (ev fr) H with
        | none => rw [hb] at h2; cases h2
        | some p =>
          obtain ⟨u', K⟩ := p
          rw [hb] at h2
          cases h2
          refine ⟨K, rfl, fun r' b' hr' hb' => ?_, fun hb' => ?_⟩
          · rw [hr] at hr'; cases hr'
            rcases sy hb with rfl | ⟨r2, b2, hr2, rfl⟩
            · exact hb'
            · have hne : r ≠ r2 := fun e => hs.dests r hr (by rw [hr2, e])
              rw [List.set_comm _ _ (by omega), List.set_comm _ _ (by omega : base + r2 ≠ base + r), hb']
          · rcases sy hb with rfl | ⟨r2, b2, hr2, rfl⟩
            · exact hb'
            · have hne : r ≠ r2 := fun e => hs.dests r hr (by rw [hr2, e])
              rw [List.set_comm _ _ (by omega), hb']
    obtain ⟨K, k1, k2, k3⟩ := onH
    obtain ⟨K2, m1, m2, m3⟩ := later k1
    refine ⟨K, k1, ?_⟩
    rw [m1]
    congr 2
    rcases sx with rfl | ⟨r, b, hr, hb⟩
    · rw [k3 rfl]
      rcases sy k1 with e | ⟨r2, b2, hr2, e⟩
      · rw [m3 e, e]
      · rw [m2 r2 b2 hr2 e, e]
    · rw [k2 r b hr hb]
      rcases sy k1 with e | ⟨r2, b2, hr2, e⟩
      · rw [m3 e, hb, e]
      · have hne : r ≠ r2 := fun e => hs.dests r hr (by rw [hr2, e])
        rw [m2 r2 b2 hr2 e, hb, e, List.set_comm _ _ (by omega)]
  have kr : kind x.op = .r ∧ kind y.op = .r := by
    rcases two with ⟨k1 | k1, k2 | k2⟩
    · exact ⟨k1, k2⟩
    · exact absurd (.inr k2) hnn
    · exact absurd (.inl k1) hnn
    · exact absurd (.inl k1) hnn
  have e1 := body_r hC kr.1 h1
  subst e1
  have e2 := body_r hC kr.2 h2
  subst e2
  exact ⟨_, h2, h1⟩

theorem ins_swap (hC : CallOk0 C) {x y : AIns} (hx : Planned x) (hy : Planned y) (hs : Sep x y) {fr fr1 fr2 : Nat → Value} {H H1 H2 : Heap} (h1 : insOp C N lim (some base) x fr H = some (fr1, H1)) (h2 : insOp C N lim (some base) y fr1 H1 = some (fr2, H2)) :
    ∃ fr1' H1', insOp C N lim (some base) y fr H = some (fr1', H1') ∧ insOp C N lim (some base) x fr1' H1' = some (fr2, H2) := by
  have hap := hs.apart
  unfold apartA at hap
  have a1 : ∀ d, x.dst = some d → d ∉ y.looks := fun d e => by rw [e] at hap; simp at hap; exact hap.1.1
  have a2 : ∀ d, x.dst = some d → y.dst ≠ some d := fun d e => by rw [e] at hap; simp at hap; exact hap.1.2
  have a3 : ∀ d, y.dst = some d → d ∉ x.looks := fun d e => by rw [e] at hap; simp at hap; exact hap.2
  unfold insOp at h1 h2
  cases hv : insVal C N lim (some base) x fr H with
  | none => rw [hv] at h1; cases h1
  | some p =>
  obtain ⟨v, K1⟩ := p
  rw [hv] at h1
  simp only [Option.map_eq_some_iff, Prod.mk.injEq] at h1
  obtain ⟨f1, hf1, rfl, rfl⟩ := h1
  rw [insVal_put hf1 a1] at h2
  cases hu : insVal C N lim (some base) y fr K1 with
  | none => rw [hu] at h2; cases h2
  | some p =>
  obtain ⟨u, K2⟩ := p
  rw [hu] at h2
  simp only [Option.map_eq_some_iff, Prod.mk.injEq] at h2
  obtain ⟨f2, hf2, rfl, rfl⟩ := h2
  obtain ⟨K1', e1, e2⟩ := vals_swap hC hx hy hs hv hu
  obtain ⟨f1', g1, g2⟩ := put_comm hf1 hf2 a2
  refine ⟨f1', K1', by simp only [insOp, e1, g1]; rfl, ?_⟩
  unfold insOp
  rw [insVal_put g1 a3, e2]
  simp [g2]

/-- A list of operations, one behind the other. -/
def dOps (C : CallF) (N lim : Nat) (base : Option Nat) : List AIns → (Nat → Value) → Heap → Option ((Nat → Value) × Heap)
  | [], fr, H => some (fr, H)
  | i :: l, fr, H => match insOp C N lim base i fr H with
    | some (fr', H') => dOps C N lim base l fr' H'
    | none => none

theorem dOps_cons {b : Option Nat} {i : AIns} {l : List AIns} {fr : Nat → Value} {H : Heap} {r} (h : dOps C N lim b (i :: l) fr H = some r) : ∃ fr' H', insOp C N lim b i fr H = some (fr', H') ∧ dOps C N lim b l fr' H' = some r := by
  simp only [dOps] at h
  split at h
  · rename_i fr' H' h1; exact ⟨fr', H', h1, h⟩
  · cases h

/-- An operation that none of those ahead of it touches may come first. -/
theorem bubble (hC : CallOk0 C) {x : AIns} (hx : Planned x) (B : List AIns) : ∀ (A : List AIns) (fr : Nat → Value) (H : Heap) (r), (∀ a ∈ A, Planned a ∧ Sep a x) → dOps C N lim (some base) (A ++ x :: B) fr H = some r →
    dOps C N lim (some base) (x :: (A ++ B)) fr H = some r
  | [], fr, H, r, _, h => h
  | a :: A, fr, H, r, hA, h => by
    obtain ⟨fr1, H1, h1, h2⟩ := dOps_cons h
    have ih := bubble hC hx B A fr1 H1 r (fun b hb => hA b (List.mem_cons_of_mem _ hb)) h2
    obtain ⟨fr2, H2, h3, h4⟩ := dOps_cons ih
    obtain ⟨pa, sa⟩ := hA a List.mem_cons_self
    obtain ⟨fr1', H1', e1, e2⟩ := ins_swap hC pa hx sa h1 h3
    simp only [List.cons_append, dOps, e1, e2]
    exact h4
end
end Go.AM
set_option linter.unusedVariables false
set_option linter.unusedSimpArgs false
namespace Go.AM

/-- What is alive was so, or is one's own. -/
def Grow (lim : Nat) (H H' : Heap) : Prop := ∀ (j : Nat) b, H'[j]? = some b → alive b = true → H[j]? = some b ∨ (owned b = true ∧ lim ≤ j)
theorem Grow.refl (lim : Nat) (H : Heap) : Grow lim H H := fun _ _ h _ => .inl h
theorem Grow.trans {lim : Nat} {A B C : Heap} (h : Grow lim A B) (k : Grow lim B C) : Grow lim A C := fun j b hb ha => by
  rcases k j b hb ha with h1 | h1
  · exact h j b h1 ha
  · exact .inr h1
theorem Grow.set {lim : Nat} {H : Heap} {i : Nat} {b : Blk} (hb : alive b = true → owned b = true ∧ lim ≤ i) : Grow lim H (H.set i b) := fun j c hc ha => by
  rw [List.getElem?_set] at hc
  split at hc
  · rename_i e
    split at hc
    · cases hc; exact .inr (e ▸ hb ha)
    · cases hc
  · exact .inl hc
theorem Grow.place {lim : Nat} {H : Heap} {dest : Option Nat} {b : Blk} (hb : owned b = true) (hd : ∀ d, dest = some d → lim ≤ d) (hl : lim ≤ H.length) : Grow lim H (place dest b H).2 := by
  cases dest with
  | some d => exact Grow.set fun _ => ⟨hb, hd d rfl⟩
  | none =>
    intro j c hc ha
    simp only [AM.place] at hc
    by_cases hj : j < H.length
    · rw [List.getElem?_append_left hj] at hc; exact .inl hc
    · rw [List.getElem?_append_right (by omega)] at hc
      have hj2 : j - H.length = 0 := by
        have := (List.getElem?_eq_some_iff.1 hc).1
        simp at this; omega
      rw [hj2] at hc
      simp at hc; subst hc
      exact .inr ⟨hb, by omega⟩
theorem Grow.dead {lim : Nat} {H : Heap} (n : Nat) : Grow lim H (H ++ List.replicate n .dead) := fun j c hc ha => by
  by_cases hj : j < H.length
  · rw [List.getElem?_append_left hj] at hc; exact .inl hc
  · rw [List.getElem?_append_right (by omega), List.getElem?_replicate] at hc
    split at hc
    · cases hc; simp [alive] at ha
    · cases hc
theorem storeAt_grow {lim : Nat} {H H' : Heap} {a : Addr} {vs : List Value} (h : storeAt lim H a vs = some H') : Grow lim H H' := by
  unfold storeAt at h
  split at h
  · split at h
    · rename_i hc; cases h; exact Grow.set fun _ => ⟨rfl, hc.1⟩
    · cases h
  · cases h

theorem aOp_grow0 {o : AOp} {lim : Nat} {dest : Option Nat} {ρ : Operand → Value} {H H' : Heap} {v : Value} (hn : kind o ≠ .n) (h : aOp lim dest o ρ H = some (v, H')) (hd : ∀ d, dest = some d → lim ≤ d) (hl : lim ≤ H.length) : Grow lim H H' := by
  cases hk : kind o with
  | n => exact absurd hk hn
  | p => rw [(kind_p hk h).1]; exact Grow.refl _ _
  | r =>
    by_cases hc : ∃ mp f args, o = .call mp f args
    · obtain ⟨mp, f, args, rfl⟩ := hc; simp [aOp] at h
    · rw [kind_r hk (fun mp f args e => hc ⟨mp, f, args, e⟩) h]; exact Grow.refl _ _
  | c =>
    cases o <;> simp [kind] at hk
    simp [aOp] at h
  | a =>
    cases o <;> simp [kind] at hk <;> simp only [aOp] at h
    case alloc => cases h; exact Grow.place (b := .cells false _) rfl hd hl
    case box =>
      split at h
      case isFalse => cases h
      cases h; exact Grow.place (b := .cells false _) rfl hd hl
    case buildSlice =>
      split at h
      case h_2 => cases h
      cases h; exact Grow.place (b := .cells false _) rfl hd hl
    case makeSlice =>
      split at h
      case h_2 => cases h
      split at h
      case isFalse => cases h
      cases h; exact Grow.place (b := .cells false _) rfl hd hl
    case makeMap =>
      split at h
      case h_2 => cases h
      cases h; exact Grow.place (b := .map []) rfl hd hl
    case call mp f args => split at hk <;> cases hk
  | w =>
    cases o <;> simp [kind] at hk <;> simp only [aOp] at h
    case store =>
      split at h
      · split at h
        · simp only [Option.map_eq_some_iff, Prod.mk.injEq] at h; obtain ⟨_, h1, _, rfl⟩ := h; exact storeAt_grow h1
        · cases h
      · cases h
    case append =>
      unfold aAppend at h
      split at h
      case h_2 => cases h
      split at h
      · cases h
      split at h
      · cases h; exact Grow.refl _ _
      split at h
      · split at h
        · cases h; exact Grow.place (b := .cells false _) rfl hd hl
        · cases h
      · split at h
        · cases h
        split at h
        · split at h
          · split at h
            · cases h
              exact (Grow.set (b := .dead) fun h => by simp [alive] at h).trans (Grow.place (b := .cells false _) rfl hd (by simpa using hl))
            · cases h
          · cases h
        · split at h
          · split at h
            · split at h
              · rename_i h1; cases h; exact storeAt_grow h1
              · cases h
            · cases h; exact Grow.place (b := .cells false _) rfl hd hl
          · cases h
    case copy =>
      split at h
      · split at h
        · split at h
          · split at h
            · cases h; exact Grow.refl _ _
            · simp only [Option.map_eq_some_iff, Prod.mk.injEq] at h; obtain ⟨_, h1, _, rfl⟩ := h; exact storeAt_grow h1
          · split at h
            · cases h; exact Grow.refl _ _
            · cases h
        · cases h
      · cases h
    case mapUpdate =>
      split at h
      · split at h
        · split at h
          · rename_i hc
            split at h <;> cases h
            · exact Grow.set fun _ => ⟨rfl, hc.2⟩
            · exact Grow.set fun _ => ⟨rfl, hc.2⟩
          · cases h
        · cases h
      · cases h
    case delete =>
      split at h
      · split at h <;> cases h; exact Grow.refl _ _
      · split at h
        · split at h
          · rename_i hc
            split at h <;> cases h
            · exact Grow.set fun _ => ⟨rfl, hc.2⟩
            · exact Grow.refl _ _
          · cases h
        · cases h
      · cases h
    case call mp f args => split at hk <;> cases hk
theorem aOp_grow {o : AOp} {lim : Nat} {dest : Option Nat} {ρ : Operand → Value} {H H' : Heap} {v : Value} (h : aOp lim dest o ρ H = some (v, H')) (hd : ∀ d, dest = some d → lim ≤ d) (hl : lim ≤ H.length) : Grow lim H H' := by
  by_cases hn : kind o = .n
  · cases o <;> (try (simp [kind] at hn; done))
    · exact aOp_grow0 (by simp [unf, kind]) (aOp_unf h) hd hl
    · rename_i mp f as'
      cases mp <;> simp [kind] at hn
  · exact aOp_grow0 hn h hd hl

/-- What a call has come to. -/
def CallPost (W : Nat → Prop) (lim : Nat) (σ : Sig) (H : Heap) (v : Value) (H' : Heap) (w : World) : Ending → World → Prop := fun e w' =>
  ∃ v' σ', e = .returned v' ∧ VRel σ' v v' ∧ Inv W lim σ' H' w' ∧ Stp W w w' ∧ Sig.le σ σ' ∧ ∀ j, σ' j ≠ σ j → H.length ≤ j

structure CallOk (P : Program) (C : CallF) : Prop extends CallOk0 C where
  fn : ∀ mp lim g as H v H', C mp lim g as H = some (v, H') → ∃ fn, P.funcs[g]? = some fn ∧ fn.body.isSome = true ∧ (fn.name == "runtime.NumGoroutine") = false
  calls : ∀ mp lim g as H v H', C mp lim g as H = some (v, H') → lim ≤ H.length → ∀ W σ w as', Inv W lim σ H w → LRel σ as as' → Calls P g as'.toArray w (CallPost W lim σ H v H' w)
  grow : ∀ mp lim g as H v H', C mp lim g as H = some (v, H') → lim ≤ H.length → Grow lim H H'

section
variable {P : Program} {pureF : FuncId → Bool} {C : CallF} {W : Nat → Prop} {lim : Nat} {σ : Sig} {H H' : Heap} {w : World} {dest : Option Nat}

/-- What a step hands on. -/
def Next' (W : Nat → Prop) (lim : Nat) (σ : Sig) (dest : Option Nat) (H : Heap) (w : World) (v : Value) (H' : Heap) (v' : Value) (w' : World) (σ' : Sig) : Prop :=
  VRel σ' v v' ∧ Inv W lim σ' H' w' ∧ Stp W w w' ∧ Sig.le σ σ' ∧ (∀ j, σ' j ≠ σ j → dest = some j ∨ H.length ≤ j) ∧ H.length ≤ H'.length ∧ Grow lim H H'

theorem call_enter {ρ' : Operand → Value} {o : Oper} {c : Call} (ho : o.op = .call c) {f : Operand} (hc : c.callee = .value f) {g : FuncId} {fi ca : Array Value} (hf : ρ' f = .func (.func g) fi ca)
    {fn : Func} (h1 : P.funcs[g]? = some fn) (h2 : fn.body.isSome = true) (h3 : (fn.name == "runtime.NumGoroutine") = false) :
    (execOp ρ' o).run P w = .ok (.enter g (fi ++ c.args.map ρ' ++ ca)) w := by
  have hb : fn.body.isNone = false := by cases h : fn.body <;> simp_all
  have h3' : ¬ (fn.name = "runtime.NumGoroutine") := by simpa using h3
  simp [execOp, ho, resolve, hc, Deferred.ofValue, hf, invoke, callFunc, h1, h3']
  intro h; rw [h] at h2; cases h2

theorem stepOp_wp (hC : CallOk P C) {draw : Bool} {o : Oper} {ao : AOp} (htr : trOp P pureF draw o = some ao) (hinv : Inv W lim σ H w) (hl : lim ≤ H.length) (hdl : ∀ d, dest = some d → lim ≤ d) (hd : ∀ d, dest = some d → d < H.length ∧ σ d = none)
    {ρ : Operand → Value} {a : Act} (hρ : ∀ x, okOperand x = true → VRel σ (ρ x) (a.eval x)) {v : Value} (hx : stepOp C lim dest ao ρ H = some (v, H'))
    {K : Act → World → Prop} {Q : Exit → Act → World → Prop} (hK : ∀ v' w' σ', Next' W lim σ dest H w v H' v' w' σ' → K (a.put o.dst v') w') : o.wp P a w K Q := by
  by_cases hcall : ∃ mp f args, ao = .call mp f args
  · obtain ⟨mp, f, args, rfl⟩ := hcall
    -- the operation is a call
    have hop : ∃ c, o.op = .call c ∧ c.callee = .value f ∧ args = c.args.toList ∧ ∀ x ∈ o.op.operands, okOperand x = true := by
      obtain ⟨dst, op, type, pos, after, guard⟩ := o
      unfold trOp at htr
      split at htr
      · cases htr
      rename_i hok
      simp only [Bool.not_eq_true, Bool.not_eq_false'] at hok
      have hoks : ∀ x ∈ op.operands, okOperand x = true := fun x hx => okOps (o := ⟨dst, op, type, pos, after, guard⟩) (by simpa using hok) hx
      cases op <;> (try simp only at htr) <;> try (cases htr; done)
      case call c =>
        refine ⟨c, rfl, ?_⟩
        cases hc : c.callee with
        | value f' => rw [hc] at htr; simp at htr; obtain ⟨_, rfl, rfl⟩ := htr; exact ⟨rfl, rfl, hoks⟩
        | invoke r m => rw [hc] at htr; simp at htr
        | builtin b =>
          rw [hc] at htr
          exfalso
          cases b <;> (try simp only at htr) <;> (try (cases htr; done)) <;> (repeat' (split at htr)) <;> first
            | (cases htr; done)
            | (simp only [Option.map_eq_some_iff] at htr; obtain ⟨_, _, htr⟩ := htr; cases htr; done)
            | (exfalso; simp at htr; done)
            | (obtain ⟨_, _, htr⟩ := opt_bind htr; obtain ⟨_, _, htr⟩ := opt_bind htr; obtain ⟨_, _, htr⟩ := opt_bind htr; split at htr <;> cases htr; done)
      all_goals exfalso
      all_goals (repeat' (first | (obtain ⟨_, _, htr⟩ := opt_bind htr) | split at htr))
      all_goals first
        | (cases htr; done)
        | (simp only [Option.map_eq_some_iff] at htr; obtain ⟨_, _, htr⟩ := htr; cases htr; done)
        | contradiction
    obtain ⟨c, ho, hcal, rfl, hoks⟩ := hop
    simp only [stepOp] at hx
    split at hx
    case h_2 => cases hx
    rename_i g as hcl
    unfold callee at hcl
    split at hcl
    case h_2 => cases hcl
    rename_i g' fi ca hf
    simp only [Option.some.injEq, Prod.mk.injEq] at hcl
    obtain ⟨rfl, rfl⟩ := hcl
    have hfo : okOperand f = true := hoks f (by rw [ho]; simp [Op.operands, Call.operands, hcal])
    have hfv := hρ f hfo
    rw [hf] at hfv
    obtain ⟨fi', ca', hf', hfi, hca⟩ := hfv.func_left
    obtain ⟨fn, h1, h2, h3⟩ := hC.fn _ _ _ _ _ _ _ hx
    have hrun := call_enter (P := P) (w := w) ho hcal hf' h1 h2 h3
    have hargs : LRel σ (c.args.toList.map ρ) (c.args.map a.eval).toList := by
      have : (c.args.map a.eval).toList = c.args.toList.map a.eval := by simp
      rw [this]
      exact lrel_map_rho fun x hx => hρ x (hoks x (by rw [ho]; simp only [Op.operands, Call.operands, hcal]; simp at hx ⊢; exact .inr hx))
    have hcalls := hC.calls _ _ _ _ _ _ _ hx hl W σ w (fi'.toList ++ (c.args.map a.eval).toList ++ ca'.toList) hinv ((hfi.append hargs).append hca)
    have e : (fi'.toList ++ (c.args.map a.eval).toList ++ ca'.toList).toArray = fi' ++ c.args.map a.eval ++ ca' := by
      apply Array.ext'; simp
    rw [e] at hcalls
    unfold Oper.wp
    rw [hrun, Oper.upon_enter]
    refine hcalls.mono fun en w' hp => ?_
    obtain ⟨v', σ', rfl, q1, q2, q3, q4, q5⟩ := hp
    exact hK v' w' σ' ⟨q1, q2, q3, q4, fun j hj => .inr (q5 j hj), hC.len _ _ _ _ _ _ _ hx hl, hC.grow _ _ _ _ _ _ _ hx hl⟩
  · have hnc : ∀ mp f args, ao ≠ .call mp f args := fun mp f args e => hcall ⟨mp, f, args, e⟩
    rw [stepOp_plain hnc] at hx
    obtain ⟨nx, w', σ', v', hr, hn, q1, q2, q3, q4, q5, q6, q7⟩ := aOp_sound htr hinv hρ hd hx
    have hnext : Next' W lim σ dest H w v H' v' w' σ' := ⟨q1, q2, q3, q4, fun j hj => (q5 j hj).imp id (·.2), q6, aOp_grow hx hdl hl⟩
    unfold Oper.wp
    rw [hr]
    cases nx <;> simp [nextVal] at hn
    · subst hn; rw [Oper.upon_value]; exact hK _ _ _ hnext
    · subst hn; rw [Oper.upon_skip]; exact hK _ _ _ hnext
end
end Go.AM
set_option linter.unusedVariables false
set_option linter.unusedSimpArgs false
namespace Go.AM

section
variable {P : Program} {pureF : FuncId → Bool} {C : CallF} {W : Nat → Prop} {lim : Nat} {σ : Sig} {H H' : Heap} {w : World} {dest : Option Nat}

theorem Inv.mask (base : Nat) : ∀ (l : List Nat) {H : Heap}, Inv W lim σ H w → Inv W lim σ (maskH base l H) w
  | [], _, h => h
  | i :: l, H, h => by
    simp only [maskH, List.foldl_cons]
    exact Inv.mask base l (h.killAny (base + i))

theorem masked_next (hinv : Inv W lim σ H w) (base : Nat) (l : List Nat) (hown : ∀ i ∈ l, ∀ b, H[base + i]? = some b → alive b = true → owned b = true) (hlim : lim ≤ base) :
    ∃ Wm : Nat → Prop, Inv Wm lim σ (maskH base l H) w ∧ ∀ v Hm' v' w' σ', Next' Wm lim σ dest (maskH base l H) w v Hm' v' w' σ' → Next' W lim σ dest H w v (unmaskH base l H Hm') v' w' σ' := by
  refine ⟨fun b => W b ∧ ∀ i ∈ l, ∀ bl L, H[base + i]? = some bl → alive bl = true → σ (base + i) = some L → L.blk ≠ b, ?_, ?_⟩
  · have hm := hinv.mask base l
    have get : ∀ (j : Nat) b, (maskH base l H)[j]? = some b → alive b = true → H[j]? = some b ∧ ∀ i ∈ l, base + i ≠ j := fun j b hb ha => by
      by_cases hj : ∃ i ∈ l, base + i = j
      · have hlt : j < H.length := by
          have := (List.getElem?_eq_some_iff.1 hb).1
          rw [mask_length] at this; exact this
        rw [mask_in base l H hj hlt] at hb
        cases hb; simp [alive] at ha
      · have hj' : ∀ i ∈ l, base + i ≠ j := fun i hi e => hj ⟨i, hi, e⟩
        rw [mask_out base l H hj'] at hb
        exact ⟨hb, hj'⟩
    refine ⟨hm.blk, hm.inj, fun i b L hb ho hl hL => ⟨hm.wr i b L hb ho hl hL, fun k hk bl Lk hbl hal hLk e => ?_⟩, fun b hb => ⟨hm.fresh b hb, fun k hk bl Lk hbl hal hLk e => ?_⟩, hm.dom⟩
    · obtain ⟨h1, h2⟩ := get i b hb (alive_of_owned ho)
      exact hinv.inj i (base + k) b bl L Lk h1 hbl (fun e => h2 k hk e.symm) ho hal hL hLk e.symm
    · obtain ⟨L', h1, h2⟩ := hinv.blk (base + k) bl hbl hal
      rw [hLk] at h1; cases h1
      have := h2.lt hal
      omega
  · rintro v Hm' v' w' σ' ⟨q1, q2, q3, q4, q5, q6, q7⟩
    rw [mask_length] at q5 q6
    have hstp : Stp W w w' := ⟨q3.os, q3.tape, q3.output, q3.size, fun b hb => q3.block b fun h => hb h.1⟩
    have same : ∀ i L, σ i = some L → σ' i = some L := q4
    -- the places of the result
    have get : ∀ (j : Nat) b, (unmaskH base l H Hm')[j]? = some b → alive b = true → (H[j]? = some b ∧ ∃ i ∈ l, base + i = j) ∨ (Hm'[j]? = some b ∧ ∀ i ∈ l, base + i ≠ j) := fun j b hb ha => by
      by_cases hj : ∃ i ∈ l, base + i = j
      · have hlt : j < Hm'.length := by
          have := (List.getElem?_eq_some_iff.1 hb).1
          rw [unmask_length] at this; exact this
        rw [unmask_in base H l Hm' hj hlt] at hb
        simp only [Option.some.injEq] at hb
        exact .inl ⟨hget_some hb ha, hj⟩
      · have hj' : ∀ i ∈ l, base + i ≠ j := fun i hi e => hj ⟨i, hi, e⟩
        rw [unmask_out base H l Hm' hj'] at hb
        exact .inr ⟨hb, hj'⟩
    have old : ∀ (j : Nat) b, Hm'[j]? = some b → alive b = true → (∀ i ∈ l, base + i ≠ j) → H[j]? = some b ∨ (owned b = true ∧ lim ≤ j) := fun j b hb ha hj => by
      rcases q7 j b hb ha with h | h
      · rw [mask_out base l H hj] at h; exact .inl h
      · exact .inr h
    have hs' : ∀ (j : Nat) b Lj, H[j]? = some b → alive b = true → σ' j = some Lj → σ j = some Lj := fun j b Lj hb ha hj => by
      obtain ⟨L, h1, _⟩ := hinv.blk j b hb ha
      have := same _ _ h1
      rw [this] at hj; cases hj; exact h1
    refine ⟨q1, ⟨fun j b hb ha => ?_, fun i j bi bj Li Lj hbi hbj hne hoi haj hi hj => ?_, fun i b L hb ho hli hL => ?_, fun b hb => (q2.fresh b hb).1, fun j hj => q2.dom j (by rw [unmask_length] at hj; exact hj)⟩, hstp, q4, q5, by rw [unmask_length]; exact q6, fun j b hb ha => ?_⟩
    · rcases get j b hb ha with ⟨h1, h2⟩ | ⟨h1, h2⟩
      · obtain ⟨L, g1, g2⟩ := hinv.blk j b h1 ha
        refine ⟨L, same _ _ g1, g2.mono q4 fun _ => q3.block _ fun hW => ?_⟩
        obtain ⟨k, hk, rfl⟩ := h2
        exact hW.2 k hk b L h1 ha g1 rfl
      · exact q2.blk j b h1 ha
    · rcases get i bi hbi (alive_of_owned hoi) with ⟨h1, h2⟩ | ⟨h1, h2⟩
      · have hi0 := hs' i bi Li h1 (alive_of_owned hoi) hi
        rcases get j bj hbj haj with ⟨g1, g2⟩ | ⟨g1, g2⟩
        · exact hinv.inj i j bi bj Li Lj h1 g1 hne hoi haj hi0 (hs' j bj Lj g1 haj hj)
        · rcases old j bj g1 haj g2 with h | h
          · exact hinv.inj i j bi bj Li Lj h1 h hne hoi haj hi0 (hs' j bj Lj h haj hj)
          · have := q2.wr j bj Lj g1 h.1 h.2 hj
            obtain ⟨k, hk, rfl⟩ := h2
            exact this.2 k hk bi Li h1 (alive_of_owned hoi) hi0
      · rcases get j bj hbj haj with ⟨g1, g2⟩ | ⟨g1, g2⟩
        · have hj0 := hs' j bj Lj g1 haj hj
          rcases old i bi h1 (alive_of_owned hoi) h2 with h | h
          · exact hinv.inj i j bi bj Li Lj h g1 hne hoi haj (hs' i bi Li h (alive_of_owned hoi) hi) hj0
          · have := q2.wr i bi Li h1 h.1 h.2 hi
            obtain ⟨k, hk, rfl⟩ := g2
            exact fun e => this.2 k hk bj Lj g1 haj hj0 e.symm
        · exact q2.inj i j bi bj Li Lj h1 g1 hne hoi haj hi hj
    · rcases get i b hb (alive_of_owned ho) with ⟨h1, h2⟩ | ⟨h1, h2⟩
      · exact hinv.wr i b L h1 ho hli (hs' i b L h1 (alive_of_owned ho) hL)
      · exact (q2.wr i b L h1 ho hli hL).1
    · rcases get j b hb ha with ⟨h1, h2⟩ | ⟨h1, h2⟩
      · exact .inl h1
      · exact old j b h1 ha h2

/-- The frame. -/
structure FrRel (σ : Sig) (N : Nat) (fr : Nat → Value) (a : Act) : Prop where
  size : N ≤ a.tmps.size
  defers : a.defers = []
  val : ∀ t, VRel σ (fr t) (a.tmps.getD t undef)

theorem FrRel.mono {σ τ : Sig} {N : Nat} {fr : Nat → Value} {a : Act} (h : FrRel σ N fr a) (hle : Sig.le σ τ) : FrRel τ N fr a := ⟨h.size, h.defers, fun t => (h.val t).mono hle⟩
theorem FrRel.ev {σ : Sig} {N : Nat} {fr : Nat → Value} {a : Act} (h : FrRel σ N fr a) {x : Operand} (hx : okOperand x = true) : VRel σ (ev fr x) (a.eval x) := by
  cases x with
  | tmp t => exact h.val t
  | const v =>
    have hv : atom v = true := by simpa [okOperand] using hx
    exact .atom hv
  | func f => exact .atom rfl
  | global g => simp [okOperand] at hx
theorem FrRel.put {σ : Sig} {N : Nat} {fr fr' : Nat → Value} {a : Act} (h : FrRel σ N fr a) {dst : Option Nat} {v v' : Value} (hv : VRel σ v v') (hp : putD N fr dst v = some fr') : FrRel σ N fr' (a.put dst v') := by
  cases dst with
  | none => cases hp; exact h
  | some d =>
    simp only [putD] at hp
    split at hp
    case isFalse => cases hp
    rename_i hd
    cases hp
    refine ⟨by simpa [Act.put] using h.size, h.defers, fun t => ?_⟩
    simp only [Act.put, upd, Array.getD_eq_getD_getElem?]
    by_cases e : t = d
    · subst e
      have : t < a.tmps.size := by have := h.size; omega
      rw [if_pos rfl, Array.getElem?_setIfInBounds_self_of_lt this]
      exact hv
    · rw [if_neg e, Array.getElem?_setIfInBounds_ne (fun h => e h.symm), ← Array.getD_eq_getD_getElem?]
      exact h.val t
theorem FrRel.wanted {σ : Sig} {N : Nat} {fr : Nat → Value} {a : Act} (h : FrRel σ N fr a) {ops : Array Oper} {o : Oper} {g : Option (Nat × Bool)} (hg : trGuard ops o.guard = some g) {b : Bool} (hw : wantedA N fr g = some b) :
    Region.wanted o (yielded ops a.tmps) = b := by
  unfold trGuard at hg
  cases ho : o.guard with
  | none =>
    rw [ho] at hg; simp at hg; subst hg
    simp [wantedA] at hw; subst hw
    simp [Region.wanted, ho]
  | some p =>
    obtain ⟨j, c⟩ := p
    rw [ho] at hg
    simp only at hg
    split at hg
    case h_2 => cases hg
    rename_i t ht
    simp only [Option.some.injEq] at hg; subst hg
    simp only [wantedA] at hw
    split at hw
    case isFalse => cases hw
    rename_i htN
    have hsz : t < a.tmps.size := Nat.lt_of_lt_of_le htN h.size
    have hval := h.val t
    rw [Array.getD_eq_getD_getElem?, Array.getElem?_eq_getElem hsz] at hval
    simp only [Option.getD_some] at hval
    have hy : yielded ops a.tmps j = match a.tmps[t] with | .bool b => some b | _ => none := by
      unfold yielded
      rw [ht]
      simp only [Option.bind_some, Array.getElem?_eq_getElem hsz]
      cases a.tmps[t] <;> rfl
    simp only [Region.wanted, ho, hy]
    split at hw
    · rename_i d hd
      rw [hd] at hval
      rw [hval.bool_left]
      simp only [Option.some.injEq] at hw
      rw [← hw]
      simp
    · rename_i hnb
      simp only [Option.some.injEq] at hw
      rw [← hw]
      have : ∀ d, a.tmps[t] ≠ .bool d := fun d e => by
        rw [e] at hval
        generalize fr t = x at hval hnb
        cases hval
        exact hnb d rfl
      cases hx : a.tmps[t] <;> first | (exact absurd hx (this _)) | simp

/-- All that is known between two operations. -/
structure State (W : Nat → Prop) (lim : Nat) (σ : Sig) (N : Nat) (fr : Nat → Value) (H : Heap) (a : Act) (w : World) : Prop where
  fr : FrRel σ N fr a
  inv : Inv W lim σ H w
  lim : lim ≤ H.length

theorem ins_wp (hC : CallOk P C) {draw : Bool} {ops : Array Oper} {j : Nat} {o : Oper} (hj : ops[j]? = some o) {i : AIns} (htr : trIns P pureF draw ops o = some i) {N : Nat} {fr fr' : Nat → Value} {a : Act} (hs : State W lim σ N fr H a w)
    (hx : insOp C N lim none i fr H = some (fr', H')) {K : Act → World → Prop} {Q : Exit → Act → World → Prop} (hK : ∀ σ' a' w', State W lim σ' N fr' H' a' w' → Stp W w w' → Sig.le σ σ' → Grow lim H H' → (∀ j, σ' j ≠ σ j → H.length ≤ j) → H.length ≤ H'.length → K a' w') : wpOp P ops Q j K a w := by
  obtain ⟨ao, hao, htr⟩ := opt_bind htr
  obtain ⟨g, hg, htr⟩ := opt_bind htr
  cases htr
  unfold wpOp
  rw [hj]
  simp only
  unfold insOp insVal at hx
  simp only at hx
  cases hw : wantedA N fr g with
  | none => rw [hw] at hx; cases hx
  | some b =>
  rw [hs.fr.wanted hg hw]
  rw [hw] at hx
  cases b with
  | false =>
    simp only [Bool.false_eq_true, if_false]
    simp only [Option.map_eq_some_iff, Prod.mk.injEq] at hx
    obtain ⟨f, hf, rfl, rfl⟩ := hx
    exact hK σ _ w ⟨hs.fr.put (.atom rfl) hf, hs.inv, hs.lim⟩ (Stp.refl _ _) (Sig.le_refl _) (Grow.refl _ _) (fun j hj => absurd rfl hj) (Nat.le_refl _)
  | true =>
    simp only [if_true]
    left
    simp only at hx
    split at hx
    case h_2 => cases hx
    rename_i v H1 hv
    simp only [Option.map_eq_some_iff, Prod.mk.injEq] at hx
    obtain ⟨f, hf, rfl, rfl⟩ := hx
    refine stepOp_wp hC hao hs.inv hs.lim (fun d e => by cases e) (fun d e => by cases e) (fun x hx => hs.fr.ev hx) hv fun v' w' σ' hn => ?_
    obtain ⟨q1, q2, q3, q4, q5, q6, q7⟩ := hn
    exact hK σ' _ w' ⟨(hs.fr.mono q4).put q1 hf, q2, by have := hs.lim; omega⟩ q3 q4 q7 (fun j hj => (q5 j hj).resolve_left (by simp)) q6

/-- What is known of the places that are kept for the new blocks of a region. -/
structure Kept (σ : Sig) (H : Heap) (base n : Nat) (todo : List Nat) : Prop where
  len : base + n ≤ H.length
  own : ∀ r, r < n → ∀ b, H[base + r]? = some b → alive b = true → owned b = true
  free : ∀ r ∈ todo, σ (base + r) = none
  lt : ∀ r ∈ todo, r < n

theorem stepOp_unf {C : CallF} {o : AOp} {lim : Nat} {dest : Option Nat} {ρ : Operand → Value} {H : Heap} {r} (h : stepOp C lim dest o ρ H = some r) : stepOp C lim dest (unf o) ρ H = some r := by
  by_cases hc : ∃ mp f args, o = .call mp f args
  · obtain ⟨mp, f, args, rfl⟩ := hc; exact h
  · have hnc : ∀ mp f args, o ≠ .call mp f args := fun mp f args e => hc ⟨mp, f, args, e⟩
    rw [stepOp_plain hnc] at h
    have hnc' : ∀ mp f args, unf o ≠ .call mp f args := fun mp f args e => by
      cases o <;> simp only [unf] at e <;> first | (cases e; done) | (exact hnc _ _ _ e)
    rw [stepOp_plain hnc']
    exact aOp_unf h

theorem dins_wp (hC : CallOk P C) {ops : Array Oper} {j : Nat} {o : Oper} (hj : ops[j]? = some o) {i0 : AIns} (htr : trIns P pureF true ops o = some i0) {i : AIns} (hi : i.dst = i0.dst ∧ i.guard = i0.guard ∧ (i.op = i0.op ∨ unf i.op = i0.op))
    {N base n : Nat} {fr fr' : Nat → Value} {a : Act} (hs : State W lim σ N fr H a w) (hlb : lim ≤ base) {todo : List Nat} (hk : Kept σ H base n todo) (hdst : ∀ r, i.dest = some r → r ∈ todo ∧ r < n) (hmask : ∀ r ∈ i.mask, r < n)
    (hx : insOp C N lim (some base) i fr H = some (fr', H')) {K : Act → World → Prop} {Q : Exit → Act → World → Prop}
    (hK : ∀ σ' a' w', State W lim σ' N fr' H' a' w' → Stp W w w' → Sig.le σ σ' → Grow lim H H' → Kept σ' H' base n (todo.filter fun r => i.dest ≠ some r) → (∀ j, σ' j ≠ σ j → (∃ r, i.dest = some r ∧ j = base + r) ∨ H.length ≤ j) → H.length ≤ H'.length → K a' w') : wpOp P ops Q j K a w := by
  obtain ⟨ao, hao, htr⟩ := opt_bind htr
  obtain ⟨g, hg, htr⟩ := opt_bind htr
  cases htr
  obtain ⟨e1, e2, e3⟩ := hi
  simp only at e1 e2 e3
  unfold wpOp
  rw [hj]
  simp only
  unfold insOp at hx
  rw [insVal_some, e2, e1] at hx
  cases hw : wantedA N fr g with
  | none => rw [hw] at hx; cases hx
  | some b =>
  rw [hs.fr.wanted hg hw]
  rw [hw] at hx
  cases b with
  | false =>
    simp only [Bool.false_eq_true, if_false]
    simp only [Option.map_eq_some_iff, Prod.mk.injEq] at hx
    obtain ⟨f, hf, rfl, rfl⟩ := hx
    exact hK σ _ w ⟨hs.fr.put (.atom rfl) hf, hs.inv, hs.lim⟩ (Stp.refl _ _) (Sig.le_refl _) (Grow.refl _ _) ⟨hk.len, hk.own, fun r hr => hk.free r (List.mem_filter.1 hr).1, fun r hr => hk.lt r (List.mem_filter.1 hr).1⟩ (fun j hj => absurd rfl hj) (Nat.le_refl _)
  | true =>
    simp only [if_true]
    left
    simp only [bodyVal] at hx
    split at hx
    case h_2 => cases hx
    rename_i v H1 hv
    split at hv
    case h_2 => cases hv
    rename_i v1 Hm hst
    simp only [Option.some.injEq, Prod.mk.injEq] at hv
    obtain ⟨rfl, rfl⟩ := hv
    simp only [Option.map_eq_some_iff, Prod.mk.injEq] at hx
    obtain ⟨f, hf, rfl, rfl⟩ := hx
    have hst : stepOp C lim (i.dest.map (base + ·)) ao (ev fr) (maskH base i.mask H) = some (v1, Hm) := by
      rcases e3 with e3 | e3
      · rw [e3] at hst; exact hst
      · rw [← e3]; exact stepOp_unf hst
    have hd : ∀ d, i.dest.map (base + ·) = some d → ∃ r, i.dest = some r ∧ d = base + r ∧ r ∈ todo ∧ r < n := fun d e => by
      simp only [Option.map_eq_some_iff] at e
      obtain ⟨r, hr, rfl⟩ := e
      exact ⟨r, hr, rfl, hdst r hr⟩
    obtain ⟨Wm, hm1, hm2⟩ := masked_next (dest := i.dest.map (base + ·)) hs.inv base i.mask (fun r hr b hb ha => hk.own r (hmask r hr) b hb ha) hlb
    refine stepOp_wp hC hao hm1 (by rw [mask_length]; exact hs.lim) (fun d e => by obtain ⟨r, _, rfl, _⟩ := hd d e; omega)
      (fun d e => by
        obtain ⟨r, _, rfl, h1, h2⟩ := hd d e
        rw [mask_length]
        exact ⟨by have := hk.len; omega, hk.free r h1⟩) (fun x hx => hs.fr.ev hx) hst fun v' w' σ' hn => ?_
    obtain ⟨q1, q2, q3, q4, q5, q6, q7⟩ := hm2 _ _ _ _ _ hn
    have hch : ∀ j, σ' j ≠ σ j → (∃ r, i.dest = some r ∧ j = base + r) ∨ H.length ≤ j := fun j hj => by
      rcases q5 j hj with h | h
      · obtain ⟨r, h1, h2, _⟩ := hd j h
        exact .inl ⟨r, h1, h2⟩
      · exact .inr h
    refine hK σ' _ w' ⟨(hs.fr.mono q4).put q1 hf, q2, by have := hs.lim; omega⟩ q3 q4 q7 ⟨by have := hk.len; omega, fun r hr b hb ha => ?_, fun r hr => ?_, fun r hr => hk.lt r (List.mem_filter.1 hr).1⟩ hch q6
    · rcases q7 _ b hb ha with h | h
      · exact hk.own r hr b h ha
      · exact h.1
    · obtain ⟨h1, h2⟩ := List.mem_filter.1 hr
      have hne : i.dest ≠ some r := by simpa using h2
      apply Decidable.byContradiction
      intro hc
      have hch2 := hch (base + r) (fun e => hc (by rw [e]; exact hk.free r h1))
      rcases hch2 with ⟨r', h3, h4⟩ | h3
      · have : r' = r := by omega
        subst this; exact hne h3
      · have h1' := hk.lt r h1; have h2' := hk.len; omega
end
end Go.AM
set_option linter.unusedVariables false
set_option linter.unusedSimpArgs false
namespace Go.AM

theorem mapM_get {α β : Type} {f : α → Option β} : ∀ {l : List α} {r : List β}, l.mapM f = some r → r.length = l.length ∧ ∀ (j : Nat) x y, l[j]? = some x → r[j]? = some y → f x = some y
  | [], r, h => by simp at h; subst h; exact ⟨rfl, fun j x y hx => by simp at hx⟩
  | a :: l, r, h => by
    rw [List.mapM_cons] at h
    obtain ⟨b, hb, h⟩ := opt_bind h
    obtain ⟨r', hr', h⟩ := opt_bind h
    cases h
    obtain ⟨h1, h2⟩ := mapM_get hr'
    refine ⟨by simp [h1], fun j x y hx hy => ?_⟩
    cases j with
    | zero => simp at hx hy; subst hx hy; exact hb
    | succ j => exact h2 j x y (by simpa using hx) (by simpa using hy)

section
variable {P : Program} {pureF : FuncId → Bool} {C : CallF} {W : Nat → Prop} {lim : Nat} {σ : Sig} {H H' : Heap} {w : World}

/-- What a region has come to. -/
def RegPost (W : Nat → Prop) (lim : Nat) (σ : Sig) (N : Nat) (fr' : Nat → Value) (H H' : Heap) (w : World) : Exit → Act → World → Prop := fun e a' w' =>
  e = .normal ∧ ∃ σ', State W lim σ' N fr' H' a' w' ∧ Stp W w w' ∧ Sig.le σ σ' ∧ Grow lim H H' ∧ (∀ j, σ' j ≠ σ j → H.length ≤ j) ∧ H.length ≤ H'.length

theorem plain_region (hC : CallOk P C) {ops : Array Oper} {N : Nat} {Q : Exit → Act → World → Prop} (fr' : Nat → Value) (H' : Heap) (W : Nat → Prop) (lim : Nat) (σ0 : Sig) (H0 : Heap) (w0 : World)
    (hQ : ∀ a w σ, State W lim σ N fr' H' a w → Stp W w0 w → Sig.le σ0 σ → Grow lim H0 H' → (∀ j, σ j ≠ σ0 j → H0.length ≤ j) → H0.length ≤ H'.length → Q .normal a w) {l : List AIns} (hl : ops.toList.mapM (trIns P pureF false ops) = some l) :
    ∀ (m s : Nat) (fr : Nat → Value) (H : Heap) (a : Act) (w : World) (σ : Sig), s + m = ops.size → State W lim σ N fr H a w → Stp W w0 w → Sig.le σ0 σ → Grow lim H0 H → (∀ j, σ j ≠ σ0 j → H0.length ≤ j) → H0.length ≤ H.length →
      dOps C N lim none (l.drop s) fr H = some (fr', H') → wpOps P ops Q (List.range' s m) a w
  | 0, s, fr, H, a, w, σ, hs, hst, h1, h2, h3, h4, h5, hx => by
    have hlen := (mapM_get hl).1
    have : l.drop s = [] := by
      apply List.drop_eq_nil_of_le
      rw [hlen]; simp; omega
    rw [this] at hx
    simp [dOps] at hx
    obtain ⟨rfl, rfl⟩ := hx
    simp only [List.range'_zero, wpOps]
    exact hQ a w σ hst h1 h2 h3 h4 h5
  | m + 1, s, fr, H, a, w, σ, hs, hst, h1, h2, h3, h4, h5, hx => by
    obtain ⟨hlen, hget⟩ := mapM_get hl
    have hsl : s < l.length := by rw [hlen]; simp; omega
    have hso : s < ops.size := by omega
    rw [List.drop_eq_getElem_cons hsl] at hx
    obtain ⟨fr1, H1, hx1, hx2⟩ := dOps_cons hx
    have htr := hget s ops[s] l[s] (by simp [hso]) (by simp [hsl])
    rw [List.range'_succ, wpOps_cons]
    refine ins_wp hC (by simp [hso]) htr hst hx1 fun σ' a' w' q1 q2 q3 q4 q5 q6 => ?_
    exact plain_region hC fr' H' W lim σ0 H0 w0 hQ hl m (s + 1) fr1 H1 a' w' σ' (by omega) q1 (h1.trans q2) (Sig.le_trans h2 q3) (h3.trans q4)
      (fun j hj => by
        apply Decidable.byContradiction
        intro hc
        have e1 : σ j = σ0 j := Classical.byContradiction fun e => hc (h4 j e)
        have := q5 j (fun e => hj (e.trans e1))
        omega) (by omega) hx2

/-! ### Regions that draw their order -/
theorem waits_listed {ops : Array Oper} {listed : Array Bool} (hcl : ∀ (i : Nat) o, ops[i]? = some o → listed.getD i false = true → ∀ e ∈ o.after.toList, Region.binds .any e = true → listed.getD e.on false = true) :
    ∀ (n x a : Nat), listed.getD x false = true → waits ops n x a = true → listed.getD a false = true
  | 0, x, a, _, h => by simp [waits] at h
  | n + 1, x, a, hx, h => by
    unfold waits at h
    split at h
    · rename_i o ho
      obtain ⟨e, he, h2⟩ := List.any_eq_true.1 h
      simp only [Bool.and_eq_true, Bool.or_eq_true, beq_iff_eq] at h2
      have he' := hcl x o ho hx e he h2.1
      rcases h2.2 with h3 | h3
      · rw [← h3]; exact he'
      · exact waits_listed hcl n e.on a he' h3
    · cases h

theorem waits_back {ops : Array Oper} (hb : backward ops = true) : ∀ (n x a : Nat), waits ops n x a = true → a < x
  | 0, x, a, h => by simp [waits] at h
  | n + 1, x, a, h => by
    unfold waits at h
    split at h
    · rename_i o ho
      obtain ⟨e, he, h2⟩ := List.any_eq_true.1 h
      simp only [Bool.and_eq_true, Bool.or_eq_true, beq_iff_eq] at h2
      have hx : x < ops.size := (Array.getElem?_eq_some_iff.1 ho).1
      have hbx := List.all_eq_true.1 hb x (by simpa using hx)
      rw [ho] at hbx
      have := List.all_eq_true.1 hbx e he
      rw [h2.1] at this
      simp at this
      rcases h2.2 with h3 | h3
      · omega
      · have := waits_back hb n e.on a h3; omega
    · cases h

theorem ready_iff {ops : Array Oper} {listed : Array Bool} {i : Nat} : i ∈ Region.ready .any ops listed ↔ i < ops.size ∧ listed.getD i true = false ∧ ∀ o, ops[i]? = some o → ∀ e ∈ o.after.toList, Region.binds .any e = true → listed.getD e.on false = true := by
  unfold Region.ready
  rw [List.mem_filter]
  simp only [List.mem_range, Bool.and_eq_true, Bool.not_eq_true']
  constructor
  · rintro ⟨h1, h2, h3⟩
    refine ⟨h1, h2, fun o ho e he hb => ?_⟩
    rw [ho] at h3
    simp only [Option.map_some, Option.getD_some] at h3
    rw [← Array.all_toList] at h3
    have := List.all_eq_true.1 h3 e he
    simpa [hb] using this
  · rintro ⟨h1, h2, h3⟩
    refine ⟨h1, h2, ?_⟩
    have ho : ops[i]? = some ops[i] := Array.getElem?_eq_getElem h1
    rw [ho]
    simp only [Option.map_some, Option.getD_some]
    rw [← Array.all_toList]
    refine List.all_eq_true.2 fun e he => ?_
    cases hb : Region.binds .any e with
    | false => simp
    | true => simpa using h3 _ ho e he hb

theorem rank_get : ∀ (l : List AOp) (n j : Nat), (ranks.go n l).length = l.length ∧ (∀ o r, l[j]? = some o → (ranks.go n l)[j]? = some r → (makes o = true → ∃ k, r = some k ∧ n ≤ k ∧ k < n + ((ranks.go n l).filterMap id).length) ∧ (makes o = false → r = none))
  | [], n, j => ⟨rfl, fun o r h => by simp at h⟩
  | o :: l, n, j => by
    unfold ranks.go
    cases hm : makes o with
    | true =>
      simp only [if_true]
      obtain ⟨h1, h2⟩ := rank_get l (n + 1) (j - 1)
      refine ⟨by simp [h1], fun o' r ho hr => ?_⟩
      cases j with
      | zero => simp at ho hr; subst ho hr; exact ⟨fun _ => ⟨n, rfl, Nat.le_refl _, (by simp)⟩, (fun h => by rw [hm] at h; cases h)⟩
      | succ j =>
        obtain ⟨g1, g2⟩ := h2 o' r (by simpa using ho) (by simpa using hr)
        refine ⟨fun h => ?_, g2⟩
        obtain ⟨k, k1, k2, k3⟩ := g1 h
        refine ⟨k, k1, by omega, ?_⟩
        simp only [List.filterMap_cons, id, List.length_cons]
        omega
    | false =>
      simp only [Bool.false_eq_true, if_false]
      obtain ⟨h1, h2⟩ := rank_get l n (j - 1)
      refine ⟨by simp [h1], fun o' r ho hr => ?_⟩
      cases j with
      | zero => simp at ho hr; subst ho hr; exact ⟨(fun h => by rw [hm] at h; cases h), fun _ => rfl⟩
      | succ j =>
        obtain ⟨g1, g2⟩ := h2 o' r (by simpa using ho) (by simpa using hr)
        refine ⟨fun h => ?_, g2⟩
        obtain ⟨k, k1, k2, k3⟩ := g1 h
        exact ⟨k, k1, k2, by simpa using k3⟩
theorem rank_inj : ∀ (l : List AOp) (n i j k : Nat), (ranks.go n l)[i]? = some (some k) → (ranks.go n l)[j]? = some (some k) → i = j ∧ n ≤ k
  | [], n, i, j, k, h, _ => by simp [ranks.go] at h
  | o :: l, n, i, j, k, hi, hj => by
    unfold ranks.go at hi hj
    cases hm : makes o with
    | true =>
      rw [hm] at hi hj
      simp only [if_true] at hi hj
      cases i with
      | zero =>
        cases j with
        | zero => simp at hi; exact ⟨rfl, by omega⟩
        | succ j =>
          simp at hi hj
          have := (rank_inj l (n + 1) j j k hj hj).2
          omega
      | succ i =>
        cases j with
        | zero =>
          simp at hi hj
          have := (rank_inj l (n + 1) i i k hi hi).2
          omega
        | succ j =>
          simp at hi hj
          have := rank_inj l (n + 1) i j k hi hj
          omega
    | false =>
      rw [hm] at hi hj
      simp only [Bool.false_eq_true, if_false] at hi hj
      cases i with
      | zero => simp at hi
      | succ i =>
        cases j with
        | zero => simp at hj
        | succ j =>
          simp at hi hj
          have := rank_inj l n i j k hi hj
          omega

/-- The plan of a region that draws. -/
structure Plan (P : Program) (pureF : FuncId → Bool) (ops : Array Oper) (n : Nat) (L : List AIns) : Prop where
  len : L.length = ops.size
  back : backward ops = true
  ins : ∀ (j : Nat) o i, ops[j]? = some o → L[j]? = some i → ∃ i0, trIns P pureF true ops o = some i0 ∧ i.dst = i0.dst ∧ i.guard = i0.guard ∧ (i.op = i0.op ∨ unf i.op = i0.op)
  planned : ∀ (j : Nat) i, L[j]? = some i → Planned i
  sep : ∀ (i j : Nat) x y, L[i]? = some x → L[j]? = some y → i ≠ j → waits ops ops.size i j = false → waits ops ops.size j i = false → Sep x y
  dest : ∀ (j : Nat) i r, L[j]? = some i → i.dest = some r → r < n
  mask : ∀ (j : Nat) i r, L[j]? = some i → r ∈ i.mask → r < n
  inj : ∀ (i j : Nat) x y r, L[i]? = some x → L[j]? = some y → x.dest = some r → y.dest = some r → i = j

theorem makes_kind {o : AOp} (h : kind o = .p ∨ kind o = .r ∨ kind o = .c) : makes o = false := by
  cases o with
  | call mp f args => cases mp <;> rfl
  | _ => simp_all [makes, kind]

theorem drawn_plan {ops : Array Oper} {n : Nat} {L : List AIns} (h : trDrawn P pureF ops = some (.drawn n L)) : Plan P pureF ops n L := by
  unfold trDrawn at h
  obtain ⟨l0, hl0, h⟩ := opt_bind h
  simp only at h
  generalize hlf : l0.map (fresh l0) = l at h
  split at h
  case isFalse => cases h
  rename_i hc
  simp only [Bool.and_eq_true] at hc
  obtain ⟨hback, hpairs⟩ := hc
  simp only [pure, Option.some.injEq, ACode.drawn.injEq] at h
  obtain ⟨hn, hL⟩ := h
  obtain ⟨hlen0, hget0⟩ := mapM_get hl0
  have hlen : l.length = ops.toList.length := by rw [← hlf, List.length_map]; exact hlen0
  have hfr : ∀ x : AIns, (fresh l0 x).dst = x.dst ∧ (fresh l0 x).guard = x.guard ∧ ((fresh l0 x).op = x.op ∨ unf (fresh l0 x).op = x.op) := fun x => by
    unfold fresh
    split
    · rename_i hop
      split
      · exact ⟨rfl, rfl, .inr (by simp only [hop, unf])⟩
      · exact ⟨rfl, rfl, .inl rfl⟩
    · exact ⟨rfl, rfl, .inl rfl⟩
  have hrl : (ranks (l.map (·.op))).length = l.length := by unfold ranks; rw [(rank_get _ 0 0).1]; simp
  have get : ∀ (j : Nat) i, L[j]? = some i → ∃ i0, l[j]? = some i0 ∧ i = planIns ops (ranks (l.map (·.op))) j i0 := fun j i hi => by
    rw [← hL, List.getElem?_map, List.getElem?_zipIdx] at hi
    simp only [Option.map_eq_some_iff] at hi
    obtain ⟨p, hp, rfl⟩ := hi
    obtain ⟨i0, h1, rfl⟩ := hp
    exact ⟨i0, h1, by simp⟩
  have rk : ∀ (j : Nat) i0, l[j]? = some i0 → ∃ r, (ranks (l.map (·.op)))[j]? = some r ∧ (makes i0.op = true → ∃ k, r = some k ∧ k < n) ∧ (makes i0.op = false → r = none) := fun j i0 hi0 => by
    have hj : j < l.length := (List.getElem?_eq_some_iff.1 hi0).1
    have hr : (ranks (l.map (·.op)))[j]? = some ((ranks (l.map (·.op)))[j]'(by omega)) := List.getElem?_eq_getElem _
    refine ⟨_, hr, ?_⟩
    have := (rank_get (l.map (·.op)) 0 j).2 i0.op _ (by simp [hi0]) (show (ranks.go 0 (l.map (·.op)))[j]? = _ from hr)
    refine ⟨fun hm => ?_, this.2⟩
    obtain ⟨k, k1, k2, k3⟩ := this.1 hm
    exact ⟨k, k1, by rw [← hn]; simpa [ranks] using k3⟩
  have getD : ∀ (j : Nat) r, (ranks (l.map (·.op)))[j]? = some r → (ranks (l.map (·.op))).getD j none = r := fun j r h => by
    rw [List.getD_eq_getElem?_getD, h]; rfl
  -- a rank that is met belongs to one operation
  have lt : ∀ (j k : Nat), (ranks (l.map (·.op))).getD j none = some k → k < n := fun j k h => by
    by_cases hj : j < l.length
    · obtain ⟨r, r1, r2, r3⟩ := rk j _ (List.getElem?_eq_getElem hj)
      rw [getD j r r1] at h
      subst h
      cases hm : makes l[j].op with
      | true => obtain ⟨k', k1, k2⟩ := r2 hm; simp at k1; omega
      | false => have := r3 hm; cases this
    · rw [List.getD_eq_getElem?_getD, List.getElem?_eq_none (by omega)] at h; cases h
  have waitsSep : ∀ (i j : Nat) x0 y0, l[i]? = some x0 → l[j]? = some y0 → j < i → waits ops ops.size i j = false → waits ops ops.size j i = false → apartA x0 y0 = true ∧ conflict (kind x0.op) (kind y0.op) = false := fun i j x0 y0 hi hj hji w1 w2 => by
    have hil : i < ops.size := by
      have := (List.getElem?_eq_some_iff.1 hi).1
      rw [hlen] at this; simpa using this
    have h1 := List.all_eq_true.1 hpairs i (by simpa using hil)
    have h2 := List.all_eq_true.1 h1 j (by simpa using hji)
    unfold pairOk at h2
    rw [w1, w2, hi, hj] at h2
    simpa using h2
  refine ⟨by rw [← hL]; simp [hlen], hback, fun j o i ho hi => ?_, fun j i hi => ?_, fun i j x y hx hy hne w1 w2 => ?_, fun j i r hi hr => ?_, fun j i r hi hr => ?_, fun i j x y r hx hy h1 h2 => ?_⟩
  · obtain ⟨i0, h1, rfl⟩ := get j i hi
    rw [← hlf, List.getElem?_map] at h1
    simp only [Option.map_eq_some_iff] at h1
    obtain ⟨z, hz, rfl⟩ := h1
    have hz' := hget0 j o z (by simpa using ho) hz
    obtain ⟨f1, f2, f3⟩ := hfr z
    exact ⟨z, hz', f1, f2, f3⟩
  · obtain ⟨i0, h1, rfl⟩ := get j i hi
    obtain ⟨r, r1, r2, r3⟩ := rk j i0 h1
    refine ⟨fun hk => ?_, fun hm => ?_, fun hm => ?_⟩
    · have : ¬ (kind i0.op = .r ∨ kind i0.op = .w ∨ kind i0.op = .n) := by
        have hk' : kind i0.op = .p ∨ kind i0.op = .a ∨ kind i0.op = .c := hk
        rcases hk' with h | h | h <;> rw [h] <;> simp
      simp only [planIns, if_neg this]
    · obtain ⟨k, k1, k2⟩ := r2 hm
      exact ⟨k, by simp only [planIns]; rw [getD j r r1, k1]⟩
    · simp only [planIns]; rw [getD j r r1, r3 hm]
  · obtain ⟨x0, hx0, rfl⟩ := get i x hx
    obtain ⟨y0, hy0, rfl⟩ := get j y hy
    have hsep : apartA x0 y0 = true ∧ conflict (kind x0.op) (kind y0.op) = false ∨ apartA y0 x0 = true ∧ conflict (kind y0.op) (kind x0.op) = false := by
      rcases Nat.lt_or_gt_of_ne hne with h | h
      · exact .inr (waitsSep j i y0 x0 hy0 hx0 h w2 w1)
      · exact .inl (waitsSep i j x0 y0 hx0 hy0 h w1 w2)
    have hm : ∀ {a b : Nat} {a0 : AIns} {r : Nat}, l[a]? = some a0 → a ≠ b → waits ops ops.size b a = false → (ranks (l.map (·.op))).getD a none = some r → r ∈ (List.range (ranks (l.map (·.op))).length).filterMap fun c => if c ≠ b ∧ !waits ops ops.size b c then (ranks (l.map (·.op))).getD c none else none := fun {a b a0 r} ha hab hw hr => by
      have hal : a < (ranks (l.map (·.op))).length := by
        rw [hrl]; exact (List.getElem?_eq_some_iff.1 ha).1
      exact List.mem_filterMap.2 ⟨a, List.mem_range.2 hal, by rw [if_pos ⟨hab, by simpa using hw⟩]; exact hr⟩
    have mk : ∀ {x0 y0 : AIns} {i j : Nat}, l[i]? = some x0 → l[j]? = some y0 → i ≠ j → waits ops ops.size i j = false → waits ops ops.size j i = false → apartA x0 y0 = true → conflict (kind x0.op) (kind y0.op) = false →
        Sep (planIns ops (ranks (l.map (·.op))) i x0) (planIns ops (ranks (l.map (·.op))) j y0) := by
      intro x0 y0 i j hi hj hne w1 w2 ha hc
      refine ⟨ha, hc, fun hk r hr => ?_, fun hk r hr => ?_, fun r h1 h2 => ?_⟩
      · simp only [planIns] at hr hk ⊢
        rw [if_pos hk]
        exact hm hi hne w2 hr
      · simp only [planIns] at hr hk ⊢
        rw [if_pos hk]
        exact hm hj (Ne.symm hne) w1 hr
      · simp only [planIns] at h1 h2
        obtain ⟨r1, g1, _⟩ := rk i x0 hi
        obtain ⟨r2, g2, _⟩ := rk j y0 hj
        rw [getD i r1 g1] at h1
        rw [getD j r2 g2] at h2
        subst h1 h2
        exact hne (rank_inj (l.map (·.op)) 0 i j r (by simpa [ranks] using g1) (by simpa [ranks] using g2)).1
    rcases hsep with ⟨h1, h2⟩ | ⟨h1, h2⟩
    · exact mk hx0 hy0 hne w1 w2 h1 h2
    · exact (mk hy0 hx0 (Ne.symm hne) w2 w1 h1 h2).symm
  · obtain ⟨i0, h1, rfl⟩ := get j i hi
    exact lt j r hr
  · obtain ⟨i0, h1, rfl⟩ := get j i hi
    simp only [planIns] at hr
    split at hr
    · obtain ⟨c, hc1, hc2⟩ := List.mem_filterMap.1 hr
      split at hc2
      · exact lt c r hc2
      · cases hc2
    · simp at hr
  · obtain ⟨x0, hx0, rfl⟩ := get i x hx
    obtain ⟨y0, hy0, rfl⟩ := get j y hy
    simp only [planIns] at h1 h2
    obtain ⟨r1, g1, _⟩ := rk i x0 hx0
    obtain ⟨r2, g2, _⟩ := rk j y0 hy0
    rw [getD i r1 g1] at h1
    rw [getD j r2 g2] at h2
    subst h1 h2
    exact (rank_inj (l.map (·.op)) 0 i j r (by simpa [ranks] using g1) (by simpa [ranks] using g2)).1
end
end Go.AM
set_option linter.unusedVariables false
set_option linter.unusedSimpArgs false
namespace Go.AM

section
variable {P : Program} {pureF : FuncId → Bool} {C : CallF}

/-- The operations that are still to come, in the order of the text. -/
structure Todo (ops : Array Oper) (listed : Array Bool) (τ : List Nat) : Prop where
  mem : ∀ i, i ∈ τ ↔ i < ops.size ∧ listed.getD i true = false
  sorted : τ.Pairwise (· < ·)
  size : listed.size = ops.size
  closed : ∀ (i : Nat) o, ops[i]? = some o → listed.getD i false = true → ∀ e ∈ o.after.toList, Region.binds .any e = true → listed.getD e.on false = true

theorem getD_both {listed : Array Bool} {i n : Nat} (hs : listed.size = n) (hi : i < n) : listed.getD i false = listed.getD i true := by
  rw [Array.getD_eq_getD_getElem?, Array.getD_eq_getD_getElem?, Array.getElem?_eq_getElem (by omega)]
  rfl

theorem drawn_any (hC : CallOk P C) {ops : Array Oper} {n : Nat} {L : List AIns} (pl : Plan P pureF ops n L) {N base : Nat} {Q : Exit → Act → World → Prop} (fr' : Nat → Value) (H' : Heap) (W : Nat → Prop) (lim : Nat) (hlb : lim ≤ base) (σ0 : Sig) (H0 : Heap) (w0 : World)
    (hQ : ∀ a w σ, State W lim σ N fr' H' a w → Stp W w0 w → Sig.le σ0 σ → Grow lim H0 H' → (∀ j, σ j ≠ σ0 j → base ≤ j) → H0.length ≤ H'.length → Q .normal a w) :
    ∀ (fuel : Nat) (listed : Array Bool) (τ : List Nat) (fr : Nat → Value) (H : Heap) (a : Act) (w : World) (σ : Sig), τ.length = fuel → Todo ops listed τ → State W lim σ N fr H a w → Stp W w0 w → Sig.le σ0 σ → Grow lim H0 H → (∀ j, σ j ≠ σ0 j → base ≤ j) → H0.length ≤ H.length →
      Kept σ H base n (τ.filterMap fun i => (L.getD i default).dest) → dOps C N lim (some base) (τ.map fun i => L.getD i default) fr H = some (fr', H') → wpAny P .any ops Q fuel listed a w
  | 0, listed, τ, fr, H, a, w, σ, hf, ht, hst, h1, h2, h3, h4, h5, hk, hx => by
    have hτ : τ = [] := List.length_eq_zero_iff.1 hf
    subst hτ
    simp [dOps] at hx
    obtain ⟨rfl, rfl⟩ := hx
    refine ⟨?_, hQ a w σ hst h1 h2 h3 h4 h5⟩
    rw [List.eq_nil_iff_forall_not_mem]
    intro i hi
    have := ready_iff.1 hi
    have := (ht.mem i).2 ⟨this.1, this.2.1⟩
    cases this
  | fuel + 1, listed, τ, fr, H, a, w, σ, hf, ht, hst, h1, h2, h3, h4, h5, hk, hx => by
    refine ⟨fun hr => ?_, fun i hi => ?_⟩
    · -- the first one is ready
      exfalso
      cases τ with
      | nil => simp at hf
      | cons t τ =>
        have htm := (ht.mem t).1 List.mem_cons_self
        have : t ∈ Region.ready .any ops listed := ready_iff.2 ⟨htm.1, htm.2, fun o ho e he hb => by
          have hbx := List.all_eq_true.1 pl.back t (by simpa using htm.1)
          rw [ho] at hbx
          have hlt := List.all_eq_true.1 hbx e he
          rw [hb] at hlt
          simp at hlt
          -- what is ahead of the first one is listed
          rw [getD_both ht.size (by omega)]
          cases hc : listed.getD e.on true with
          | true => rfl
          | false =>
            have hm := (ht.mem e.on).2 ⟨by omega, hc⟩
            rcases List.mem_cons.1 hm with h | h
            · omega
            · have := List.rel_of_pairwise_cons ht.sorted h
              omega⟩
        rw [hr] at this
        cases this
    · obtain ⟨r1, r2, r3⟩ := ready_iff.1 hi
      have him := (ht.mem i).2 ⟨r1, r2⟩
      obtain ⟨A, B, rfl⟩ := List.append_of_mem him
      have hiL : i < L.length := by rw [pl.len]; exact r1
      have hLi : L[i]? = some (L.getD i default) := by rw [List.getD_eq_getElem?_getD, List.getElem?_eq_getElem hiL]; rfl
      have hAlt : ∀ b ∈ A, b < i := fun b hb => by
        have := List.pairwise_append.1 ht.sorted
        exact this.2.2 b hb i List.mem_cons_self
      have hA : ∀ b ∈ A, Planned (L.getD b default) ∧ Sep (L.getD b default) (L.getD i default) := fun b hb => by
        have hbm := (ht.mem b).1 (List.mem_append_left _ hb)
        have hbL : b < L.length := by rw [pl.len]; exact hbm.1
        have hLb : L[b]? = some (L.getD b default) := by rw [List.getD_eq_getElem?_getD, List.getElem?_eq_getElem hbL]; rfl
        have hbi := hAlt b hb
        refine ⟨pl.planned b _ hLb, pl.sep b i _ _ hLb hLi (by omega) ?_ ?_⟩
        · cases hw : waits ops ops.size b i with
          | false => rfl
          | true => have := waits_back pl.back _ _ _ hw; omega
        · cases hw : waits ops ops.size i b with
          | false => rfl
          | true =>
            exfalso
            have key : ∀ m, waits ops m i b = true → listed.getD b false = true := by
              intro m hm
              cases m with
              | zero => simp [waits] at hm
              | succ m =>
                unfold waits at hm
                split at hm
                · rename_i o ho
                  obtain ⟨e, he, h2⟩ := List.any_eq_true.1 hm
                  simp only [Bool.and_eq_true, Bool.or_eq_true, beq_iff_eq] at h2
                  have he' := r3 o ho e he h2.1
                  rcases h2.2 with h3 | h3
                  · rw [← h3]; exact he'
                  · exact waits_listed ht.closed m e.on b he' h3
                · cases hm
            have := key _ hw
            rw [getD_both ht.size hbm.1, hbm.2] at this
            cases this
      have hbub := bubble hC.toCallOk0 (pl.planned i _ hLi) (B.map fun i => L.getD i default) (A.map fun i => L.getD i default) fr H _ (fun x hx => by
        obtain ⟨b, hb, rfl⟩ := List.mem_map.1 hx
        exact hA b hb) (by simpa using hx)
      obtain ⟨fr1, H1, hx1, hx2⟩ := dOps_cons hbub
      have hops : ops[i]? = some ops[i] := Array.getElem?_eq_getElem r1
      obtain ⟨i0, ht0, e1, e2, e3⟩ := pl.ins i _ _ hops hLi
      refine dins_wp hC hops ht0 ⟨e1, e2, e3⟩ hst hlb hk (fun r hr => ⟨List.mem_filterMap.2 ⟨i, him, hr⟩, pl.dest i _ r hLi hr⟩) (fun r hr => pl.mask i _ r hLi hr) hx1 fun σ' a' w' q1 q2 q3 q4 q5 q6 q7 => ?_
      have hnotA : i ∉ A := fun h => by have := hAlt i h; omega
      have hnotB : i ∉ B := fun h => by
        have := (List.pairwise_append.1 ht.sorted).2.1
        have := List.rel_of_pairwise_cons this h
        omega
      have hset : ∀ j, (listed.setIfInBounds i true).getD j true = if j = i then true else listed.getD j true := fun j => by
        rw [Array.getD_eq_getD_getElem?, Array.getD_eq_getD_getElem?]
        by_cases hj : j = i
        · subst hj
          rw [if_pos rfl, Array.getElem?_setIfInBounds_self_of_lt (by rw [ht.size]; exact r1)]; rfl
        · rw [if_neg hj, Array.getElem?_setIfInBounds_ne (fun h => hj h.symm)]
      have hset' : ∀ j, (listed.setIfInBounds i true).getD j false = if j = i then true else listed.getD j false := fun j => by
        rw [Array.getD_eq_getD_getElem?, Array.getD_eq_getD_getElem?]
        by_cases hj : j = i
        · subst hj
          rw [if_pos rfl, Array.getElem?_setIfInBounds_self_of_lt (by rw [ht.size]; exact r1)]; rfl
        · rw [if_neg hj, Array.getElem?_setIfInBounds_ne (fun h => hj h.symm)]
      have ht' : Todo ops (listed.setIfInBounds i true) (A ++ B) := by
        refine ⟨fun j => ?_, ?_, by simpa using ht.size, fun j o ho hl e he hb => ?_⟩
        · have hm := ht.mem j
          rw [hset]
          constructor
          · intro hj
            have hj2 : j ∈ A ++ i :: B := by
              rcases List.mem_append.1 hj with h | h
              · exact List.mem_append_left _ h
              · exact List.mem_append_right _ (List.mem_cons_of_mem _ h)
            obtain ⟨g1, g2⟩ := hm.1 hj2
            have hne : j ≠ i := fun e => by
              subst e
              rcases List.mem_append.1 hj with h | h
              · exact hnotA h
              · exact hnotB h
            exact ⟨g1, by rw [if_neg hne]; exact g2⟩
          · rintro ⟨g1, g2⟩
            by_cases hne : j = i
            · rw [if_pos hne] at g2; cases g2
            · rw [if_neg hne] at g2
              have := hm.2 ⟨g1, g2⟩
              rcases List.mem_append.1 this with h | h
              · exact List.mem_append_left _ h
              · rcases List.mem_cons.1 h with h | h
                · exact absurd h hne
                · exact List.mem_append_right _ h
        · have h1 := List.pairwise_append.1 ht.sorted
          refine List.pairwise_append.2 ⟨h1.1, (List.pairwise_cons.1 h1.2.1).2, fun x hx y hy => h1.2.2 x hx y (List.mem_cons_of_mem _ hy)⟩
        · rw [hset'] at hl ⊢
          by_cases hj : j = i
          · subst hj
            have := r3 o ho e he hb
            split
            · rfl
            · exact this
          · rw [if_neg hj] at hl
            have := ht.closed j o ho hl e he hb
            split
            · rfl
            · exact this
      refine drawn_any hC pl fr' H' W lim hlb σ0 H0 w0 hQ fuel _ (A ++ B) fr1 H1 a' w' σ' (by simp at hf ⊢; omega) ht' q1 (h1.trans q2) (Sig.le_trans h2 q3) (h3.trans q4) (fun j hj => ?_) (by omega) ⟨q5.len, q5.own, fun r hr => q5.free r ?_, fun r hr => ?_⟩ (by simpa using hx2)
      · apply Classical.byContradiction
        intro hc
        have e1 : σ j = σ0 j := Classical.byContradiction fun e => hc (h4 j e)
        rcases q6 j (fun e => hj (e.trans e1)) with ⟨r, _, h⟩ | h
        · omega
        · have := hk.len; omega
      · obtain ⟨b, hb, hbr⟩ := List.mem_filterMap.1 hr
        refine List.mem_filter.2 ⟨List.mem_filterMap.2 ⟨b, ?_, hbr⟩, ?_⟩
        · rcases List.mem_append.1 hb with h | h
          · exact List.mem_append_left _ h
          · exact List.mem_append_right _ (List.mem_cons_of_mem _ h)
        · simp only [ne_eq, decide_not, Bool.not_eq_true', decide_eq_false_iff_not]
          intro hir
          have hbm : b ∈ A ++ i :: B := by
            rcases List.mem_append.1 hb with h | h
            · exact List.mem_append_left _ h
            · exact List.mem_append_right _ (List.mem_cons_of_mem _ h)
          have hbL : b < L.length := by rw [pl.len]; exact ((ht.mem b).1 hbm).1
          have hLb : L[b]? = some (L.getD b default) := by rw [List.getD_eq_getElem?_getD, List.getElem?_eq_getElem hbL]; rfl
          have := pl.inj b i _ _ r hLb hLi hbr hir
          subst this
          rcases List.mem_append.1 hb with h | h
          · exact hnotA h
          · exact hnotB h
      · obtain ⟨b, hb, hbr⟩ := List.mem_filterMap.1 hr
        have hbm : b ∈ A ++ i :: B := by
          rcases List.mem_append.1 hb with h | h
          · exact List.mem_append_left _ h
          · exact List.mem_append_right _ (List.mem_cons_of_mem _ h)
        have hbL : b < L.length := by rw [pl.len]; exact ((ht.mem b).1 hbm).1
        have hLb : L[b]? = some (L.getD b default) := by rw [List.getD_eq_getElem?_getD, List.getElem?_eq_getElem hbL]; rfl
        exact pl.dest b _ r hLb hbr
end
end Go.AM
set_option linter.unusedVariables false
set_option linter.unusedSimpArgs false
namespace Go.AM

/-- One way of calling knows no less than another. -/
def CLe (C C' : CallF) : Prop := ∀ mp lim g as H r, C mp lim g as H = some r → C' mp lim g as H = some r

theorem stepOp_mono {C C' : CallF} (h : CLe C C') {lim : Nat} {dest : Option Nat} {o : AOp} {ρ : Operand → Value} {H : Heap} {r} (hx : stepOp C lim dest o ρ H = some r) : stepOp C' lim dest o ρ H = some r := by
  by_cases hc : ∃ mp f args, o = .call mp f args
  · obtain ⟨mp, f, args, rfl⟩ := hc
    simp only [stepOp] at hx ⊢
    split at hx
    · exact h _ _ _ _ _ _ hx
    · cases hx
  · have hnc : ∀ mp f args, o ≠ .call mp f args := fun mp f args e => hc ⟨mp, f, args, e⟩
    rw [stepOp_plain hnc] at hx ⊢
    exact hx
theorem insOp_mono {C C' : CallF} (h : CLe C C') {N lim : Nat} {base : Option Nat} {i : AIns} {fr : Nat → Value} {H : Heap} {r} (hx : insOp C N lim base i fr H = some r) : insOp C' N lim base i fr H = some r := by
  unfold insOp at hx ⊢
  cases hv : insVal C N lim base i fr H with
  | none => rw [hv] at hx; cases hx
  | some p =>
    have : insVal C' N lim base i fr H = some p := by
      unfold insVal at hv ⊢
      cases hw : wantedA N fr i.guard with
      | none => rw [hw] at hv; cases hv
      | some b =>
        rw [hw] at hv
        cases b with
        | false => exact hv
        | true =>
          cases base with
          | none => exact stepOp_mono h hv
          | some b =>
            simp only at hv ⊢
            cases hs : stepOp C lim (i.dest.map (b + ·)) i.op (ev fr) (maskH b i.mask H) with
            | none => rw [hs] at hv; cases hv
            | some q => rw [hs] at hv; rw [stepOp_mono h hs]; exact hv
    rw [hv] at hx
    rw [this]
    exact hx
theorem callWith_mono {E : Env} {run run' : AFunc → Nat → List Value → Heap → Option (Value × Heap)} (h : ∀ af lim as H r, run af lim as H = some r → run' af lim as H = some r) : CLe (callWith E run) (callWith E run') := by
  intro mp lim g as H r hx
  unfold callWith at hx ⊢
  split at hx
  · exact hx
  · split at hx
    · cases hx
    · rename_i af haf
      split at hx
      · rename_i hp
        rw [if_pos hp]
        split at hx
        · rename_i v H1 h1
          rw [h _ _ _ _ _ h1]
          exact hx
        · cases hx
      · rename_i hp
        rw [if_neg hp]
        split at hx
        · cases hx
        · rename_i hm
          rw [if_neg hm]
          exact h _ _ _ _ _ hx

theorem aRun_succ (E : Env) : ∀ (n : Nat) (af : AFunc) (lim : Nat) (k : List AItem) (fr : Nat → Value) (H : Heap) (r), aRun E n af lim k fr H = some r → aRun E (n + 1) af lim k fr H = some r
  | 0, _, _, _, _, _, _, h => by simp [aRun] at h
  | n + 1, af, lim, k, fr, H, r, h => by
    have ih := aRun_succ E n
    rw [aRun.eq_def] at h ⊢
    simp only at h ⊢
    cases k with
    | nil => exact h
    | cons x k =>
      cases x with
      | inBlock id => exact ih _ _ _ _ _ _ h
      | inLoop c => exact ih _ _ _ _ _ _ h
      | ops base l =>
        cases l with
        | nil => exact ih _ _ _ _ _ _ h
        | cons i l =>
          simp only at h ⊢
          split at h
          · rename_i fr' H' hx
            rw [insOp_mono (callWith_mono fun af' lim' as H' r h => ih _ _ _ _ _ _ h) hx]
            exact ih _ _ _ _ _ _ h
          · cases h
      | code c =>
        cases c <;> simp only at h ⊢ <;> first
          | exact ih _ _ _ _ _ _ h
          | exact h
          | skip
        case cond c a b =>
          cases hc : ev fr c <;> rw [hc] at h <;> first
            | (rename_i b; cases b <;> exact ih _ _ _ _ _ _ h)
            | (cases h; done)
        case exit id =>
          split at h
          · exact ih _ _ _ _ _ _ h
          · cases h
theorem aRun_le (E : Env) {n m : Nat} (h : n ≤ m) {af : AFunc} {lim : Nat} {k : List AItem} {fr : Nat → Value} {H : Heap} {r} (hx : aRun E n af lim k fr H = some r) : aRun E m af lim k fr H = some r := by
  induction h with
  | refl => exact hx
  | step _ ih => exact aRun_succ E _ _ _ _ _ _ _ ih
theorem aCall_le (E : Env) {n m : Nat} (h : n ≤ m) : CLe (aCall E n) (aCall E m) := callWith_mono fun _ _ _ _ _ hx => aRun_le E h hx

theorem insOp_call (E : Env) (n : Nat) : (callWith E fun af' lim' as H' => aRun E n af' lim' [.code af'.body] (frame0 as) H') = aCall E n := rfl

/-- A region's run, taken out of a function's. -/
theorem ops_split (E : Env) : ∀ (l : List AIns) (n : Nat) (af : AFunc) (lim : Nat) (base : Option Nat) (k : List AItem) (fr : Nat → Value) (H : Heap) (r), aRun E n af lim (.ops base l :: k) fr H = some r →
    ∃ m fr' H', m < n ∧ dOps (aCall E (n - 1)) af.ntmps lim base l fr H = some (fr', H') ∧ aRun E m af lim k fr' H' = some r
  | l, 0, af, lim, base, k, fr, H, r, h => by simp [aRun] at h
  | [], n + 1, af, lim, base, k, fr, H, r, h => by
    rw [aRun.eq_def] at h
    exact ⟨n, fr, H, by omega, rfl, h⟩
  | i :: l, n + 1, af, lim, base, k, fr, H, r, h => by
    rw [aRun.eq_def] at h
    simp only at h
    split at h
    · rename_i fr1 H1 hx
      obtain ⟨m, fr', H', h1, h2, h3⟩ := ops_split E l n af lim base k fr1 H1 r h
      refine ⟨m, fr', H', by omega, ?_, h3⟩
      have hx' : insOp (aCall E (n + 1 - 1)) af.ntmps lim base i fr H = some (fr1, H1) := hx
      simp only [dOps, hx']
      have mono : ∀ (l : List AIns) (fr : Nat → Value) (H : Heap) r, dOps (aCall E (n - 1)) af.ntmps lim base l fr H = some r → dOps (aCall E (n + 1 - 1)) af.ntmps lim base l fr H = some r := by
        intro l
        induction l with
        | nil => intro fr H r h; exact h
        | cons i l ih =>
          intro fr H r h
          obtain ⟨f, K, g1, g2⟩ := dOps_cons h
          simp only [dOps, insOp_mono (aCall_le E (show n - 1 ≤ n + 1 - 1 by omega)) g1]
          exact ih _ _ _ g2
      exact mono _ _ _ _ h2
    · cases h

/-! ### What grows -/
theorem storeAt_len' {lim : Nat} {H H' : Heap} {a : Addr} {vs : List Value} (h : storeAt lim H a vs = some H') : H.length ≤ H'.length := by rw [storeAt_len h]; exact Nat.le_refl _
theorem place_len {dest : Option Nat} {b : Blk} {H : Heap} : H.length ≤ (place dest b H).2.length := by
  cases dest <;> simp [place]
theorem aOp_len0 {o : AOp} {lim : Nat} {dest : Option Nat} {ρ : Operand → Value} {H H' : Heap} {v : Value} (hn : kind o ≠ .n) (h : aOp lim dest o ρ H = some (v, H')) : H.length ≤ H'.length := by
  cases hk : kind o with
  | n => exact absurd hk hn
  | p => rw [(kind_p hk h).1]; exact Nat.le_refl _
  | r =>
    by_cases hc : ∃ mp f args, o = .call mp f args
    · obtain ⟨mp, f, args, rfl⟩ := hc; simp [aOp] at h
    · rw [kind_r hk (fun mp f args e => hc ⟨mp, f, args, e⟩) h]; exact Nat.le_refl _
  | c =>
    cases o <;> simp [kind] at hk
    simp [aOp] at h
  | a =>
    cases o <;> simp [kind] at hk <;> simp only [aOp] at h
    case alloc => cases h; exact place_len
    case box =>
      split at h
      case isFalse => cases h
      cases h; exact place_len
    case buildSlice =>
      split at h
      case h_2 => cases h
      cases h; exact place_len
    case makeSlice =>
      split at h
      case h_2 => cases h
      split at h
      case isFalse => cases h
      cases h; exact place_len
    case makeMap =>
      split at h
      case h_2 => cases h
      cases h; exact place_len
    case call mp f args => split at hk <;> cases hk
  | w =>
    cases hm : makes o with
    | false => rw [kind_w_len' hk hm h]; exact Nat.le_refl _
    | true =>
      cases dest with
      | some d => rw [kind_w_len hk h]; exact Nat.le_refl _
      | none =>
        have ha : ∃ esz bytes str s x, o = .append esz bytes str s x := by
          cases o <;> simp [makes, kind] at hm <;> (try (simp [kind] at hk; done))
          case append => exact ⟨_, _, _, _, _, rfl⟩
          all_goals (exfalso; simp [kind] at hk; try (split at hk <;> cases hk))
        obtain ⟨esz, bytes, str, s, x, rfl⟩ := ha
        simp only [aOp] at h
        unfold aAppend at h
        split at h
        case h_2 => cases h
        split at h
        · cases h
        split at h
        · cases h; exact Nat.le_refl _
        split at h
        · split at h
          · cases h; simp [place]
          · cases h
        · split at h
          · cases h
          split at h
          · split at h
            · split at h
              · cases h; simp [place]
              · cases h
            · cases h
          · split at h
            · split at h
              · split at h
                · rename_i h1; cases h; exact storeAt_len' h1
                · cases h
              · cases h; simp [place]
            · cases h
theorem aOp_len {o : AOp} {lim : Nat} {dest : Option Nat} {ρ : Operand → Value} {H H' : Heap} {v : Value} (h : aOp lim dest o ρ H = some (v, H')) : H.length ≤ H'.length := by
  by_cases hn : kind o = .n
  · cases o <;> (try (simp [kind] at hn; done))
    · exact aOp_len0 (by simp [unf, kind]) (aOp_unf h) 
    · rename_i mp f as'
      cases mp <;> simp [kind] at hn
  · exact aOp_len0 hn h 

def CallGrow (C : CallF) : Prop := ∀ mp lim g as H v H', C mp lim g as H = some (v, H') → lim ≤ H.length → H.length ≤ H'.length ∧ Grow lim H H'

theorem stepOp_grow {C : CallF} (hC : CallGrow C) {lim : Nat} {dest : Option Nat} {o : AOp} {ρ : Operand → Value} {H H' : Heap} {v : Value} (h : stepOp C lim dest o ρ H = some (v, H')) (hd : ∀ d, dest = some d → lim ≤ d) (hl : lim ≤ H.length) :
    H.length ≤ H'.length ∧ Grow lim H H' := by
  by_cases hc : ∃ mp f args, o = .call mp f args
  · obtain ⟨mp, f, args, rfl⟩ := hc
    simp only [stepOp] at h
    split at h
    · exact hC _ _ _ _ _ _ _ h hl
    · cases h
  · have hnc : ∀ mp f args, o ≠ .call mp f args := fun mp f args e => hc ⟨mp, f, args, e⟩
    rw [stepOp_plain hnc] at h
    exact ⟨aOp_len h, aOp_grow h hd hl⟩

theorem unmask_grow {lim base : Nat} {l : List Nat} {H X : Heap} (h : Grow lim (maskH base l H) X) : Grow lim H (unmaskH base l H X) := fun j b hb ha => by
  by_cases hj : ∃ i ∈ l, base + i = j
  · have hlt : j < X.length := by
      have := (List.getElem?_eq_some_iff.1 hb).1
      rw [unmask_length] at this; exact this
    rw [unmask_in base H l X hj hlt] at hb
    simp only [Option.some.injEq] at hb
    exact .inl (hget_some hb ha)
  · have hj' : ∀ i ∈ l, base + i ≠ j := fun i hi e => hj ⟨i, hi, e⟩
    rw [unmask_out base H l X hj'] at hb
    rcases h j b hb ha with h1 | h1
    · rw [mask_out base l H hj'] at h1; exact .inl h1
    · exact .inr h1

theorem insOp_grow {C : CallF} (hC : CallGrow C) {N lim : Nat} {base : Option Nat} {i : AIns} {fr fr' : Nat → Value} {H H' : Heap} (h : insOp C N lim base i fr H = some (fr', H')) (hb : ∀ b, base = some b → lim ≤ b) (hl : lim ≤ H.length) :
    H.length ≤ H'.length ∧ Grow lim H H' := by
  unfold insOp at h
  cases hv : insVal C N lim base i fr H with
  | none => rw [hv] at h; cases h
  | some p =>
    obtain ⟨v, K⟩ := p
    rw [hv] at h
    simp only [Option.map_eq_some_iff, Prod.mk.injEq] at h
    obtain ⟨f, hf, rfl, rfl⟩ := h
    unfold insVal at hv
    cases hw : wantedA N fr i.guard with
    | none => rw [hw] at hv; cases hv
    | some b =>
      rw [hw] at hv
      cases b with
      | false => cases hv; exact ⟨Nat.le_refl _, Grow.refl _ _⟩
      | true =>
        cases base with
        | none => exact stepOp_grow hC hv (fun d e => by cases e) hl
        | some b =>
          simp only at hv
          cases hs : stepOp C lim (i.dest.map (b + ·)) i.op (ev fr) (maskH b i.mask H) with
          | none => rw [hs] at hv; cases hv
          | some q =>
            obtain ⟨v1, X⟩ := q
            rw [hs] at hv
            cases hv
            obtain ⟨g1, g2⟩ := stepOp_grow hC hs (fun d e => by
              simp only [Option.map_eq_some_iff] at e
              obtain ⟨r, _, rfl⟩ := e
              have := hb b rfl
              omega) (by rw [mask_length]; exact hl)
            exact ⟨by rw [unmask_length]; rw [mask_length] at g1; exact g1, unmask_grow g2⟩

theorem callWith_grow {E : Env} {run : AFunc → Nat → List Value → Heap → Option (Value × Heap)} (h : ∀ af lim as H v H', run af lim as H = some (v, H') → lim ≤ H.length → H.length ≤ H'.length ∧ Grow lim H H') : CallGrow (callWith E run) := by
  intro mp lim g as H v H' hx hl
  unfold callWith at hx
  split at hx
  · split at hx
    · cases hx; exact ⟨Nat.le_refl _, Grow.refl _ _⟩
    · cases hx
  · split at hx
    · cases hx
    · split at hx
      · split at hx
        · split at hx
          · cases hx; exact ⟨Nat.le_refl _, Grow.refl _ _⟩
          · cases hx
        · cases hx
      · split at hx
        · cases hx
        · exact h _ _ _ _ _ _ hx hl

theorem aExit_ops {id : Nat} : ∀ {k k' : List AItem} {Pr : AItem → Prop}, aExit id k = some k' → (∀ x ∈ k, Pr x) → ∀ x ∈ k', Pr x
  | [], _, _, h, _ => by simp [aExit] at h
  | y :: k, k', Pr, h, hp => by
    have hk : ∀ x ∈ k, Pr x := fun x hx => hp x (List.mem_cons_of_mem _ hx)
    cases y <;> simp only [aExit] at h
    case inBlock id' =>
      split at h
      · cases h; exact hk
      · exact aExit_ops h hk
    all_goals exact aExit_ops h hk

theorem aRun_grow (E : Env) : ∀ (n : Nat) (af : AFunc) (lim : Nat) (k : List AItem) (fr : Nat → Value) (H : Heap) (v : Value) (H' : Heap), (∀ x ∈ k, ∀ b l, x = .ops (some b) l → lim ≤ b) → aRun E n af lim k fr H = some (v, H') → lim ≤ H.length →
    H.length ≤ H'.length ∧ Grow lim H H'
  | 0, _, _, _, _, _, _, _, _, h, _ => by simp [aRun] at h
  | n + 1, af, lim, k, fr, H, v, H', hk, h, hl => by
    have ih := aRun_grow E n
    rw [aRun.eq_def] at h
    simp only at h
    have res : ((result fr H af.results).map (·, H)) = some (v, H') → H.length ≤ H'.length ∧ Grow lim H H' := fun h => by
      simp only [Option.map_eq_some_iff, Prod.mk.injEq] at h
      obtain ⟨_, _, _, rfl⟩ := h
      exact ⟨Nat.le_refl _, Grow.refl _ _⟩
    cases k with
    | nil => exact res h
    | cons x k =>
      have hk' : ∀ x ∈ k, ∀ b l, x = .ops (some b) l → lim ≤ b := fun x hx => hk x (List.mem_cons_of_mem _ hx)
      have add : ∀ {c : AItem}, (∀ b l, c ≠ .ops (some b) l) → ∀ x ∈ c :: k, ∀ b l, x = .ops (some b) l → lim ≤ b := fun {c} hc x hx b l e => by
        rcases List.mem_cons.1 hx with h | h
        · subst h; exact absurd e (hc b l)
        · exact hk' x h b l e
      cases x with
      | inBlock id => exact ih _ _ _ _ _ _ _ hk' h hl
      | inLoop c =>
        refine ih _ _ _ _ _ _ _ (fun x hx b l e => ?_) h hl
        rcases List.mem_cons.1 hx with h | h
        · subst h; cases e
        · exact add (c := .inLoop c) (by simp) x h b l e
      | ops base l =>
        cases l with
        | nil => exact ih _ _ _ _ _ _ _ hk' h hl
        | cons i l =>
          simp only at h
          split at h
          · rename_i fr' H1 hx
            obtain ⟨g1, g2⟩ := insOp_grow (callWith_grow fun af' lim' as H0 v0 H1 h0 hl0 => ih _ _ _ _ _ _ _ (fun x hx b l e => by simp at hx; subst hx; cases e) h0 hl0) hx (fun b e => hk _ List.mem_cons_self b (i :: l) (by rw [e])) hl
            obtain ⟨g3, g4⟩ := ih _ _ _ _ _ _ _ (fun x hx b l' e => by
              rcases List.mem_cons.1 hx with h | h
              · subst h; cases e; exact hk _ List.mem_cons_self b (i :: l) rfl
              · exact hk' x h b l' e) h (by omega)
            exact ⟨by omega, g2.trans g4⟩
          · cases h
      | code c =>
        cases c <;> simp only at h
        case skip => exact ih _ _ _ _ _ _ _ hk' h hl
        case ops l => exact ih _ _ _ _ _ _ _ (add (c := .ops none l) (by simp)) h hl
        case drawn m l =>
          obtain ⟨g1, g2⟩ := ih _ _ _ _ _ _ _ (fun x hx b l' e => by
            rcases List.mem_cons.1 hx with h | h
            · subst h; cases e; exact hl
            · exact hk' x h b l' e) h (by simp; omega)
          exact ⟨by simp at g1; omega, (Grow.dead m).trans g2⟩
        case seq a b =>
          refine ih _ _ _ _ _ _ _ (fun x hx b' l e => ?_) h hl
          rcases List.mem_cons.1 hx with h | h
          · subst h; cases e
          · exact add (c := .code b) (by simp) x h b' l e
        case cond c a b =>
          cases hc : ev fr c <;> rw [hc] at h <;> first
            | (rename_i t; cases t <;> exact ih _ _ _ _ _ _ _ (add (by simp)) h hl)
            | (cases h; done)
        case block id b =>
          refine ih _ _ _ _ _ _ _ (fun x hx b' l e => ?_) h hl
          rcases List.mem_cons.1 hx with h | h
          · subst h; cases e
          · exact add (c := .inBlock id) (by simp) x h b' l e
        case loop b =>
          refine ih _ _ _ _ _ _ _ (fun x hx b' l e => ?_) h hl
          rcases List.mem_cons.1 hx with h | h
          · subst h; cases e
          · exact add (c := .inLoop b) (by simp) x h b' l e
        case exit id =>
          split at h
          · rename_i k' hke
            exact ih _ _ _ _ _ _ _ (aExit_ops hke hk') h hl
          · cases h
        case ret => exact res h
end Go.AM
set_option linter.unusedVariables false
set_option linter.unusedSimpArgs false
namespace Go.AM
open Go.RowKit

/-- A flat value that holds no tuple inside stands for itself. -/
def flat' : Nat → Value → Bool
  | n + 1, .agg cs => cs.toList.all fun v => flat' n v && v.oneCell'
  | n + 1, .tuple cs => cs.toList.all (flat' n)
  | _, v => AM.atom v

theorem VRel.of_flat' {σ : Sig} : ∀ (n : Nat) {v : Value}, flat' n v = true → VRel σ v v
  | 0, v, hf => .atom (by cases v <;> simpa [flat'] using hf)
  | n + 1, v, hf => by
    cases v with
    | agg cs =>
      simp only [flat', List.all_eq_true, Bool.and_eq_true] at hf
      exact .agg rfl (fun i h1 h2 => VRel.of_flat' n (hf _ (by simp)).1) (fun i h1 => (hf _ (by simp)).2)
    | tuple cs =>
      simp only [flat', List.all_eq_true] at hf
      exact .tuple rfl (fun i h1 h2 => VRel.of_flat' n (hf _ (by simp)))
    | _ => exact .atom (by simpa [flat'] using hf)

/-- What ties the names that the abstract machine calls to the program. -/
structure EnvOk (P : Program) (E : Env) : Prop where
  tr : ∀ g af, E.tr g = some af → trFunc P E.pure g = some af
  orcFn : ∀ g as v, E.orc g as = some v → ∃ fn, P.funcs[g]? = some fn ∧ fn.body.isSome = true ∧ (fn.name == "runtime.NumGoroutine") = false
  orc : ∀ g as v, E.orc g as = some v → ∀ w, Calls P g as.toArray w fun e w' => e = .returned v ∧ Below w.heap.size w w'
  orcFlat : ∀ g as v, E.orc g as = some v → ∀ σ, VRel σ v v
  mixed : P.follows .mixedOrders = true

theorem VRel.eq_of_atom {σ : Sig} {v v' : Value} (h : VRel σ v v') (ha : AM.atom v = true) : v' = v := by
  cases h with
  | atom _ => rfl
  | func h1 h2 k1 k2 =>
    simp [AM.atom] at ha
    obtain ⟨rfl, rfl⟩ := ha
    simp at h1 h2
    rw [Array.size_eq_zero_iff.1 h1.symm, Array.size_eq_zero_iff.1 h2.symm]
  | tuple h k =>
    simp [AM.atom] at ha
    subst ha
    rw [Array.size_eq_zero_iff.1 h.symm]
  | _ => simp [AM.atom] at ha

theorem VRel.eq_of_flat {σ : Sig} : ∀ (n : Nat) {v v' : Value}, VRel σ v v' → flat n v = true → v' = v
  | 0, v, v', h, hf => h.eq_of_atom (by cases v <;> simpa [flat] using hf)
  | n + 1, v, v', h, hf => by
    have key : ∀ {xs ys : Array Value}, (∀ x ∈ xs, flat n x = true) → xs.size = ys.size → (∀ i (h : i < xs.size) (h' : i < ys.size), VRel σ xs[i] ys[i]) → ys = xs := by
      intro xs ys hall hs k
      apply Array.ext hs.symm
      intro i h1 h2
      exact VRel.eq_of_flat n (k i h2 h1) (hall _ (Array.getElem_mem h2))
    cases h with
    | agg h k o => simp only [flat, List.all_eq_true] at hf; rw [key (fun x hx => hf x (by simpa using hx)) h k]
    | tuple h k => simp only [flat, List.all_eq_true] at hf; rw [key (fun x hx => hf x (by simpa using hx)) h k]
    | atom h => rfl
    | func h1 h2 k1 k2 => exact (VRel.func h1 h2 k1 k2).eq_of_atom (by simpa [flat] using hf)
    | _ => simp [flat, AM.atom] at hf

theorem VRel.flat_self {τ : Sig} : ∀ (n : Nat) {σ : Sig} {v v' : Value}, VRel σ v v' → flat n v = true → VRel τ v v'
  | 0, σ, v, v', h, hf => by
    have ha : AM.atom v = true := by cases v <;> simpa [flat] using hf
    rw [h.eq_of_atom ha]; exact .atom ha
  | n + 1, σ, v, v', h, hf => by
    have at' : AM.atom v = true → VRel τ v v' := fun ha => by rw [h.eq_of_atom ha]; exact .atom ha
    cases h with
    | agg h k o =>
      simp only [flat, List.all_eq_true] at hf
      exact .agg h (fun i h1 h2 => VRel.flat_self n (k i h1 h2) (hf _ (by simp))) o
    | tuple h k =>
      simp only [flat, List.all_eq_true] at hf
      exact .tuple h (fun i h1 h2 => VRel.flat_self n (k i h1 h2) (hf _ (by simp)))
    | atom h => exact .atom h
    | func h1 h2 k1 k2 => exact at' (by simpa [flat] using hf)
    | _ => simp [flat, AM.atom] at hf

section
variable {P : Program} {pf : FuncId → Bool} {W : Nat → Prop} {lim : Nat} {σ : Sig} {H H' : Heap} {w : World}

inductive KRel (P : Program) (pf : FuncId → Bool) : List AItem → List Item → Prop
  | nil : KRel P pf [] []
  | code {c C k K} (h : trCode P pf C = some c) (t : KRel P pf k K) : KRel P pf (.code c :: k) (.code C :: K)
  | inBlock {id k K} (t : KRel P pf k K) : KRel P pf (.inBlock id :: k) (.inBlock id :: K)
  | inLoop {c C k K} (h : trCode P pf C = some c) (t : KRel P pf k K) : KRel P pf (.inLoop c :: k) (.inLoop C :: K)

theorem KRel.exit {id : Nat} {k k' : List AItem} {K : List Item} (h : KRel P pf k K) (he : aExit id k = some k') : ∃ K', exitTo id K = some K' ∧ KRel P pf k' K' := by
  induction h with
  | nil => simp [aExit] at he
  | code h t ih => simp only [aExit] at he; simp only [exitTo]; exact ih he
  | inLoop h t ih => simp only [aExit] at he; simp only [exitTo]; exact ih he
  | inBlock t ih =>
    simp only [aExit] at he
    simp only [exitTo, beq_iff_eq]
    split at he
    · rename_i e; rw [if_pos e]; cases he; exact ⟨_, rfl, t⟩
    · rename_i e; rw [if_neg e]; exact ih he

theorem Inv.pad (h : Inv W lim σ H w) (n : Nat) : Inv W lim σ (H ++ List.replicate n .dead) w := by
  have get : ∀ (j : Nat) b, (H ++ List.replicate n Blk.dead)[j]? = some b → alive b = true → H[j]? = some b := fun j b hb ha => by
    by_cases hj : j < H.length
    · rw [List.getElem?_append_left hj] at hb; exact hb
    · rw [List.getElem?_append_right (by omega), List.getElem?_replicate] at hb
      split at hb
      · cases hb; simp [alive] at ha
      · cases hb
  exact ⟨fun i b hb ha => h.blk i b (get i b hb ha) ha, fun i j bi bj Li Lj hi hj hne ho ha => h.inj i j bi bj Li Lj (get i bi hi (alive_of_owned ho)) (get j bj hj ha) hne ho ha,
    fun i b L hb ho => h.wr i b L (get i b hb (alive_of_owned ho)) ho, h.fresh, fun i hi => h.dom i (by simp at hi; omega)⟩

theorem resVal_sound {fr : Nat → Value} {N : Nat} {a : Act} (hs : State W lim σ N fr H a w) {r : ResultVar} {ar : ARes} (ht : trRes P r = some ar) {v : Value} (hv : resVal fr H ar = some v) :
    ∃ v', (match r with | .tmp t => pure (a.tmps.getD t undef) | .cell b t => do loadVar t (← asAddr (a.tmps.getD b undef)) : Sem Value).run P w = .ok v' w ∧ VRel σ v v' := by
  cases r with
  | tmp t =>
    simp only [trRes] at ht; cases ht
    simp only [resVal] at hv; cases hv
    exact ⟨_, rfl, hs.fr.val t⟩
  | cell b t =>
    simp only [trRes] at ht
    obtain ⟨n, hn, ht⟩ := opt_bind ht
    obtain ⟨ag, hag, ht⟩ := opt_bind ht
    have hb := hs.fr.val b
    cases ag with
    | true =>
      simp at ht; subst ht
      simp only [resVal] at hv
      split at hv
      case h_2 => cases hv
      rename_i p hp
      simp only [Option.map_eq_some_iff] at hv
      obtain ⟨c, hc, rfl⟩ := hv
      rw [hp] at hb
      obtain ⟨L, hL, hsp, h2⟩ := hb.ptr_left
      obtain ⟨v', h3, h4⟩ := loadN_sound (P := P) hs.inv hag hn hL hc
      exact ⟨v', by simp only [h2]; simp [asAddr, h3], h4⟩
    | false =>
      simp at ht; subst ht
      simp only [resVal] at hv
      split at hv
      case h_2 => cases hv
      rename_i p hp
      rw [hp] at hb
      obtain ⟨L, hL, hsp, h2⟩ := hb.ptr_left
      obtain ⟨v', h3, h4⟩ := load1_sound (P := P) hs.inv hag hL hv
      exact ⟨v', by simp only [h2]; simp [asAddr, h3], h4⟩

theorem resAll_sound {fr : Nat → Value} {N : Nat} {a : Act} (hs : State W lim σ N fr H a w) : ∀ {rs : List ResultVar} {ars : List ARes} {vs : List Value}, rs.mapM (trRes P) = some ars → resAll fr H ars = some vs →
    ∃ vs', (rs.mapM (fun r => (match r with | .tmp t => pure (a.tmps.getD t undef) | .cell b t => do loadVar t (← asAddr (a.tmps.getD b undef)) : Sem Value))).run P w = .ok vs' w ∧ LRel σ vs vs'
  | [], ars, vs, h, hv => by
    simp at h; subst h
    simp [resAll] at hv; subst hv
    exact ⟨[], by simp, LRel.nil⟩
  | r :: rs, ars, vs, h, hv => by
    rw [List.mapM_cons] at h
    obtain ⟨b, hb, h⟩ := opt_bind h
    obtain ⟨r', hr', h⟩ := opt_bind h
    cases h
    simp only [resAll] at hv
    split at hv
    case h_2 => cases hv
    rename_i v vs1 h1 h2
    cases hv
    obtain ⟨v', k1, k2⟩ := resVal_sound hs hb h1
    obtain ⟨vs', k3, k4⟩ := resAll_sound hs hr' h2
    refine ⟨v' :: vs', ?_, LRel.cons k2 k4⟩
    rw [List.mapM_cons]
    simp only [Sem.run_bind, k1, k3, Result.andThen_ok, Sem.run_pure]

theorem results_sound {fr : Nat → Value} {N : Nat} {a : Act} (hs : State W lim σ N fr H a w) {fn : Func} {ars : List ARes} (ht : fn.results.toList.mapM (trRes P) = some ars) {v : Value} (hv : result fr H ars = some v) :
    ∃ v', (results fn a.tmps).run P w = .ok v' w ∧ VRel σ v v' := by
  unfold result at hv
  cases hr : resAll fr H ars with
  | none => rw [hr] at hv; cases hv
  | some vs =>
    obtain ⟨vs', k1, k2⟩ := resAll_sound hs ht hr
    rw [hr] at hv
    unfold results
    rw [Array.mapM_eq_mapM_toList]
    simp only [Sem.run_bind, Sem.run_map]
    erw [k1]
    simp only [Result.andThen_ok, Sem.run_pure]
    refine ⟨_, rfl, ?_⟩
    match vs, vs', k2 with
    | [], vs', k2 =>
      have : vs' = [] := by have := k2.1; simp at this; exact List.length_eq_zero_iff.1 this.symm
      subst this
      simp at hv; subst hv
      exact .atom rfl
    | [x], vs', k2 =>
      have hl := k2.1
      match vs', hl, k2 with
      | [y], _, k2 => simp at hv; subst hv; exact k2.head
    | x :: y :: zs, vs', k2 =>
      have hl := k2.1
      match vs', hl, k2 with
      | x' :: y' :: zs', _, k2 =>
        simp at hv; subst hv
        have : ¬ ((x' :: y' :: zs').toArray.size = 1) := by simp
        rw [dif_neg this]
        exact VRel.tuple_iff.2 k2
end
end Go.AM
set_option linter.unusedVariables false
set_option linter.unusedSimpArgs false
namespace Go.AM
open Go.RowKit

section
variable {P : Program} {E : Env} {W : Nat → Prop} {lim : Nat} {σ : Sig} {H H' : Heap} {w : World}

theorem region_plain {C : CallF} (hC : CallOk P C) {pf : FuncId → Bool} {id : Nat} {ops : Array Oper} {l : List AIns} (hl : ops.toList.mapM (trIns P pf false ops) = some l) {N : Nat} {fr fr' : Nat → Value} {a : Act}
    (hs : State W lim σ N fr H a w) (hx : dOps C N lim none l fr H = some (fr', H')) : (Code.region id ops false).wp P (RegPost W lim σ N fr' H H' w) a w := by
  refine wp_region ?_
  rw [List.range_eq_range']
  exact plain_region hC fr' H' W lim σ H w (fun a w1 σ1 q1 q2 q3 q4 q5 q6 => ⟨rfl, σ1, q1, q2, q3, q4, q5, q6⟩) hl ops.size 0 fr H a w σ (by simp) hs (Stp.refl _ _) (Sig.le_refl _) (Grow.refl _ _) (fun j hj => absurd rfl hj) (Nat.le_refl _) (by simpa using hx)

theorem Todo.start (ops : Array Oper) : Todo ops (Array.replicate ops.size false) (List.range ops.size) := by
  refine ⟨fun i => ?_, List.pairwise_lt_range, by simp, fun i o ho hl => ?_⟩
  · rw [List.mem_range]
    constructor
    · intro hi
      refine ⟨hi, ?_⟩
      rw [Array.getD_eq_getD_getElem?, Array.getElem?_eq_getElem (by simpa using hi)]
      simp
    · exact fun h => h.1
  · exfalso
    rw [Array.getD_eq_getD_getElem?, Array.getElem?_replicate] at hl
    split at hl <;> simp at hl

theorem region_drawn {C : CallF} (hC : CallOk P C) {pf : FuncId → Bool} (hm : P.follows .mixedOrders = true) {id : Nat} {ops : Array Oper} {n : Nat} {L : List AIns} (hl : trDrawn P pf ops = some (.drawn n L)) {N : Nat} {fr fr' : Nat → Value} {a : Act}
    (hs : State W lim σ N fr H a w) (hx : dOps C N lim (some H.length) L fr (H ++ List.replicate n .dead) = some (fr', H')) : (Code.region id ops true).wp P (fun e a' w' => e = .normal ∧ ∃ σ', State W lim σ' N fr' H' a' w' ∧ Stp W w w' ∧ Sig.le σ σ' ∧ (∀ j, σ' j ≠ σ j → H.length ≤ j)) a w := by
  refine wp_region_any hm ?_
  have pl := drawn_plan hl
  have hs' : State W lim σ N fr (H ++ List.replicate n .dead) a w.drew := ⟨hs.fr, (hs.inv.pad n).drew, by have := hs.lim; simp; omega⟩
  refine drawn_any hC pl fr' H' W lim hs.lim σ (H ++ List.replicate n .dead) w.drew (fun a w1 σ1 q1 q2 q3 q4 q5 q6 => ⟨rfl, σ1, q1, Stp.drew.trans q2, q3, q5⟩) ops.size _ (List.range ops.size) fr _ a w.drew σ (by simp) (Todo.start ops) hs' (Stp.refl _ _) (Sig.le_refl _) (Grow.refl _ _)
    (fun j hj => absurd rfl hj) (Nat.le_refl _) ⟨by simp, fun r hr b hb ha => ?_, fun r hr => hs.inv.dom _ (by omega), fun r hr => ?_⟩ ?_
  · rw [List.getElem?_append_right (by omega), List.getElem?_replicate] at hb
    split at hb
    · cases hb; simp [alive] at ha
    · cases hb
  · obtain ⟨b, hb, hbr⟩ := List.mem_filterMap.1 hr
    have hbL : b < L.length := by rw [pl.len]; exact List.mem_range.1 hb
    exact pl.dest b _ r (by rw [List.getD_eq_getElem?_getD, List.getElem?_eq_getElem hbL]; rfl) hbr
  · have : (List.range ops.size).map (fun i => L.getD i default) = L := by
      apply List.ext_getElem
      · simp [pl.len]
      · intro i h1 h2
        simp [List.getD_eq_getElem?_getD, List.getElem?_eq_getElem h2]
    rw [this]
    exact hx

/-- What a run has come to. -/
def RunPost (P : Program) (W : Nat → Prop) (lim : Nat) (σ : Sig) (af : AFunc) (v : Value) (H H' : Heap) (w : World) (b : Frame) (K : List Item) (cs : List Frame) (a : Act) : Prop :=
  ∃ a' w' σ' fr' todo, Steps P (lone (b.at a K) cs w) (lone { b.at a' todo with mode := .returning } cs w') ∧ State W lim σ' af.ntmps fr' H' a' w' ∧ result fr' H' af.results = some v ∧ Stp W w w' ∧ Sig.le σ σ' ∧ ∀ j, σ' j ≠ σ j → H.length ≤ j

theorem RunPost.step {af : AFunc} {v : Value} {b : Frame} {K K1 : List Item} {cs : List Frame} {a : Act} (h : step P (lone (b.at a K) cs w) = .next (lone (b.at a K1) cs w)) (k : RunPost P W lim σ af v H H' w b K1 cs a) : RunPost P W lim σ af v H H' w b K cs a := by
  obtain ⟨a', w', σ', fr', todo, h1, h2⟩ := k
  exact ⟨a', w', σ', fr', todo, Steps.head h h1, h2⟩
theorem RunPost.steps {af : AFunc} {v : Value} {b : Frame} {K K1 : List Item} {cs : List Frame} {a a1 : Act} {w1 : World} {σ1 : Sig} {H1 : Heap} (h : Steps P (lone (b.at a K) cs w) (lone (b.at a1 K1) cs w1)) (hst : Stp W w w1) (hle : Sig.le σ σ1) (hd : ∀ j, σ1 j ≠ σ j → H.length ≤ j) (hH : H.length ≤ H1.length)
    (k : RunPost P W lim σ1 af v H1 H' w1 b K1 cs a1) : RunPost P W lim σ af v H H' w b K cs a := by
  obtain ⟨a', w', σ', fr', todo, h1, h2, h3, h4, h5, h6⟩ := k
  refine ⟨a', w', σ', fr', todo, Steps.trans h h1, h2, h3, hst.trans h4, Sig.le_trans hle h5, fun j hj => ?_⟩
  apply Classical.byContradiction
  intro hc
  have e1 : σ1 j = σ j := Classical.byContradiction fun e => hc (hd j e)
  have := h6 j (fun e => hj (e.trans e1))
  omega

theorem run_sound (hE : EnvOk P E) (n : Nat) (hC : ∀ m, m < n → CallOk P (aCall E m)) : ∀ (m : Nat), m ≤ n → ∀ {af : AFunc} {k : List AItem} {fr : Nat → Value} {σ : Sig} {H H' : Heap} {w : World} {v : Value} {K : List Item} {a : Act} (b : Frame) (cs : List Frame), aRun E m af lim k fr H = some (v, H') → KRel P E.pure k K → State W lim σ af.ntmps fr H a w →
      RunPost P W lim σ af v H H' w b K cs a := by
  intro m
  induction m using Nat.strongRecOn with
  | ind m ih =>
  intro hm af k fr σ H H' w v K a b cs hx hK hs
  cases m with
  | zero => simp [aRun] at hx
  | succ m =>
  have ih' : ∀ {k : List AItem} {K : List Item}, aRun E m af lim k fr H = some (v, H') → KRel P E.pure k K → RunPost P W lim σ af v H H' w b K cs a := fun hx hK => ih m (by omega) (by omega) b cs hx hK hs
  have fin : ∀ {todo : List Item}, Steps P (lone (b.at a K) cs w) (lone { b.at a todo with mode := .returning } cs w) → (result fr H af.results).map (·, H) = some (v, H') → RunPost P W lim σ af v H H' w b K cs a := fun hst h => by
    simp only [Option.map_eq_some_iff, Prod.mk.injEq] at h
    obtain ⟨_, h1, rfl, rfl⟩ := h
    exact ⟨a, w, σ, fr, _, hst, hs, h1, Stp.refl _ _, Sig.le_refl _, fun j hj => absurd rfl hj⟩
  rw [aRun.eq_def] at hx
  simp only at hx
  cases hK with
  | nil => exact fin (.one step_end) hx
  | inBlock t => exact RunPost.step step_inBlock (ih' hx t)
  | inLoop h t => exact RunPost.step step_inLoop (ih' hx (.code h (.inLoop h t)))
  | @code c C k K h t =>
    cases C <;> simp only [trCode] at h <;> try (cases h; done)
    case skip => cases h; exact RunPost.step step_skip (ih' hx t)
    case region id ops draw =>
      cases draw with
      | false =>
        simp only [Bool.false_eq_true, if_false] at h
        obtain ⟨l, hl, h⟩ := opt_bind h
        cases h
        simp only at hx
        obtain ⟨m1, fr1, H1, h1, h2, h3⟩ := ops_split E l m af lim none k fr H _ hx
        have hCm := hC (m - 1) (by omega)
        obtain ⟨e, a1, w1, hq, harr⟩ := region_plain hCm (id := id) hl hs h2 b K cs
        obtain ⟨rfl, σ1, q1, q2, q3, q4, q5, q6⟩ := hq
        exact RunPost.steps harr q2 q3 q5 q6 (ih m1 (by omega) (by omega) b cs h3 t q1)
      | true =>
        simp only [if_true] at h
        have hc : ∃ n L, c = .drawn n L := by
          unfold trDrawn at h
          obtain ⟨l, hl, h⟩ := opt_bind h
          simp only at h
          split at h
          · cases h; exact ⟨_, _, rfl⟩
          · cases h
        obtain ⟨nn, L, rfl⟩ := hc
        simp only at hx
        obtain ⟨m1, fr1, H1, h1, h2, h3⟩ := ops_split E L m af lim (some H.length) k fr _ _ hx
        have hCm := hC (m - 1) (by omega)
        obtain ⟨e, a1, w1, hq, harr⟩ := region_drawn hCm hE.mixed (id := id) h hs h2 b K cs
        obtain ⟨rfl, σ1, q1, q2, q3, q5⟩ := hq
        have hlen : H.length ≤ H1.length := by
          have key : ∀ (l : List AIns) (fr fr1 : Nat → Value) (H0 H1 : Heap), lim ≤ H0.length → dOps (aCall E (m - 1)) af.ntmps lim (some H.length) l fr H0 = some (fr1, H1) → H0.length ≤ H1.length := by
            intro l
            induction l with
            | nil => intro fr fr1 H0 H1 _ hx; simp [dOps] at hx; rw [hx.2]; exact Nat.le_refl _
            | cons i l ih =>
              intro fr fr1 H0 H1 hl hx
              obtain ⟨f2, H2, g1, g2⟩ := dOps_cons hx
              have hg : CallGrow (aCall E (m - 1)) := fun mp lim g as H v H' hc hl => ⟨hCm.len _ _ _ _ _ _ _ hc hl, hCm.grow _ _ _ _ _ _ _ hc hl⟩
              obtain ⟨g3, _⟩ := insOp_grow hg g1 (fun b e => by cases e; exact hs.lim) hl
              have := ih _ _ _ _ (by omega) g2
              omega
          have := key L fr fr1 _ H1 (by have := hs.lim; simp; omega) h2
          simp at this
          omega
        exact RunPost.steps harr q2 q3 q5 hlen (ih m1 (by omega) (by omega) b cs h3 t q1)
    case seq x y =>
      obtain ⟨x', hx', h⟩ := opt_bind h
      obtain ⟨y', hy', h⟩ := opt_bind h
      cases h
      exact RunPost.step step_seq (ih' hx (.code hx' (.code hy' t)))
    case cond o x y =>
      split at h
      case isFalse => cases h
      rename_i hok
      obtain ⟨x', hx', h⟩ := opt_bind h
      obtain ⟨y', hy', h⟩ := opt_bind h
      cases h
      have hev := hs.fr.ev hok
      simp only at hx
      cases he : ev fr o <;> rw [he] at hx hev <;> (try (cases hx; done))
      rename_i t'
      have hb := hev.bool_left
      cases t' with
      | true => exact RunPost.step (step_cond hb) (ih' hx (.code hx' t))
      | false => exact RunPost.step (step_cond hb) (ih' hx (.code hy' t))
    case block id x =>
      obtain ⟨x', hx', h⟩ := opt_bind h
      cases h
      exact RunPost.step step_block (ih' hx (.code hx' (.inBlock t)))
    case loop x =>
      obtain ⟨x', hx', h⟩ := opt_bind h
      cases h
      exact RunPost.step step_loop (ih' hx (.code hx' (.inLoop hx' t)))
    case exit id =>
      cases h
      simp only at hx
      split at hx
      case h_2 => cases hx
      rename_i k' hk'
      obtain ⟨K', h1, h2⟩ := t.exit hk'
      exact RunPost.step (step_exit h1) (ih' hx h2)
    case ret => cases h; exact fin (.one step_ret) hx

theorem frame0_rel {as as' : List Value} (h : LRel σ as as') (fn : Func) : FrRel σ fn.ntmps (frame0 as) { tmps := as'.toArray ++ Array.replicate (fn.ntmps - as'.toArray.size) undef, defers := [] } := by
  refine ⟨by simp; omega, rfl, fun t => ?_⟩
  unfold frame0
  rw [Array.getD_eq_getD_getElem?, List.getD_eq_getElem?_getD]
  by_cases ht : t < as.length
  · have ht' : t < as'.length := by rw [← h.1]; exact ht
    rw [Array.getElem?_append_left (by simpa using ht'), List.getElem?_eq_getElem ht]
    simp only [List.getElem?_toArray, List.getElem?_eq_getElem ht', Option.getD_some]
    exact h.2 t _ _ (List.getElem?_eq_getElem ht) (List.getElem?_eq_getElem ht')
  · have ht' : as'.toArray.size ≤ t := by simp [← h.1]; omega
    rw [List.getElem?_eq_none (by omega), Array.getElem?_append_right ht', Array.getElem?_replicate]
    have hu : VRel σ undef undef := .atom rfl
    split <;> exact hu

theorem call_sound (hE : EnvOk P E) (n : Nat) (hC : ∀ m, m < n → CallOk P (aCall E m)) {g : FuncId} {af : AFunc} (ht : trFunc P E.pure g = some af) {as as' : List Value} {v : Value} (hx : aRun E n af lim [.code af.body] (frame0 as) H = some (v, H')) (hl : lim ≤ H.length)
    (hinv : Inv W lim σ H w) (ha : LRel σ as as') : Calls P g as'.toArray w (CallPost W lim σ H v H' w) := by
  unfold trFunc at ht
  obtain ⟨fn, hfn, ht⟩ := opt_bind ht
  obtain ⟨body, hb, ht⟩ := opt_bind ht
  obtain ⟨c, hc, ht⟩ := opt_bind ht
  obtain ⟨rs, hrs, ht⟩ := opt_bind ht
  split at ht
  · cases ht
  cases ht
  intro cs
  let b : Frame := { (default : Frame) with fn := g, kind := .normal }
  have henter : Frame.enter P g as'.toArray .normal = b.at { tmps := as'.toArray ++ Array.replicate (fn.ntmps - as'.toArray.size) undef, defers := [] } [.code body] := by
    simp [Frame.enter, Frame.at, hfn, hb, b]
  have hst : State W lim σ fn.ntmps (frame0 as) H { tmps := as'.toArray ++ Array.replicate (fn.ntmps - as'.toArray.size) undef, defers := [] } w := ⟨frame0_rel ha fn, hinv, hl⟩
  obtain ⟨a', w', σ', fr', todo, h1, h2, h3, h4, h5, h6⟩ := run_sound (W := W) hE n hC n (Nat.le_refl _) b cs hx (.code hc .nil) hst
  obtain ⟨v', h7, h8⟩ := results_sound h2 hrs h3
  rw [← henter] at h1
  exact ⟨.returned v', w', _, ⟨v', σ', rfl, h8, h2.inv, h4, h5, h6⟩, h1, rfl, rfl, h2.fr.defers, rfl, fn, hfn, h7⟩

theorem callOk (hE : EnvOk P E) : ∀ n, CallOk P (aCall E n) := by
  intro n
  induction n using Nat.strongRecOn with
  | ind n ih =>
  have hgrow : CallGrow (aCall E n) := callWith_grow fun af lim as H v H' hx hl => aRun_grow E n af lim _ _ _ _ _ (fun x hx b l e => by simp at hx; subst hx; cases e) hx hl
  have inv : ∀ {mp lim g as H v H'}, aCall E n mp lim g as H = some (v, H') →
      (E.orc g as = some v ∧ H' = H ∧ as.all atom = true ∧ flat 4 v = true) ∨
      (∃ af, E.tr g = some af ∧ ((E.pure g = true ∧ H' = H ∧ flat 4 v = true ∧ ∃ H1, aRun E n af H.length [.code af.body] (frame0 as) H = some (v, H1)) ∨ (mp = false ∧ aRun E n af lim [.code af.body] (frame0 as) H = some (v, H')))) := by
    intro mp lim g as H v H' h
    unfold aCall callWith at h
    split at h
    · rename_i u hu
      split at h
      · rename_i hf
        cases h
        simp only [Bool.and_eq_true] at hf
        exact .inl ⟨hu, rfl, hf.1, hf.2⟩
      · cases h
    · split at h
      · cases h
      · rename_i af haf
        right
        refine ⟨af, haf, ?_⟩
        split at h
        · rename_i hp
          split at h
          · rename_i u H1 h1
            split at h
            · rename_i hf
              cases h
              exact .inl ⟨hp, rfl, hf, H1, h1⟩
            · cases h
          · cases h
        · split at h
          · cases h
          · rename_i hmp
            exact .inr ⟨by simpa using hmp, h⟩
  have trOk : ∀ {g af}, E.tr g = some af → ∃ fn, P.funcs[g]? = some fn ∧ fn.body.isSome = true ∧ (fn.name == "runtime.NumGoroutine") = false := by
    intro g af h
    have ht := hE.tr g af h
    unfold trFunc at ht
    obtain ⟨fn, hfn, ht⟩ := opt_bind ht
    obtain ⟨body, hb, ht⟩ := opt_bind ht
    obtain ⟨c, hc, ht⟩ := opt_bind ht
    obtain ⟨rs, hrs, ht⟩ := opt_bind ht
    split at ht
    · cases ht
    · rename_i hn
      exact ⟨fn, hfn, by rw [hb]; rfl, by simpa using hn⟩
  refine { pure := ?_, len := ?_, fn := ?_, calls := ?_, grow := ?_ }
  · intro lim g as H v H' h
    rcases inv h with ⟨_, e, _⟩ | ⟨af, _, ⟨_, e, _⟩ | ⟨e, _⟩⟩
    · exact e
    · exact e
    · cases e
  · exact fun mp lim g as H v H' h hl => (hgrow mp lim g as H v H' h hl).1
  · intro mp lim g as H v H' h
    rcases inv h with ⟨e, _⟩ | ⟨af, e, _⟩
    · exact hE.orcFn _ _ _ e
    · exact trOk e
  · intro mp lim g as H v H' h hl W σ w as' hinv ha
    rcases inv h with ⟨e, rfl, hat, hfl⟩ | ⟨af, e, ⟨hp, rfl, hfl, H1, hx⟩ | ⟨_, hx⟩⟩
    · have heq : as' = as := by
        apply List.ext_getElem ha.1.symm
        intro i h1 h2
        exact (ha.2 i _ _ (List.getElem?_eq_getElem h2) (List.getElem?_eq_getElem h1)).eq_of_atom (List.all_eq_true.1 hat _ (by simp))
      subst heq
      refine (hE.orc _ _ _ e w).mono fun en w' hp => ?_
      obtain ⟨rfl, hb⟩ := hp
      refine ⟨v, σ, rfl, ?_, hinv.world hb.size (fun k hk => hb.block k hk), ⟨hb.os, hb.tape, hb.output, hb.size, fun k hk => hb.block k ?_⟩, Sig.le_refl _, fun j hj => absurd rfl hj⟩
      · exact hE.orcFlat _ _ _ e σ
      · rcases Nat.lt_or_ge k w.heap.size with h | h
        · exact h
        · exact absurd (hinv.fresh k h) hk
    · have hinv' : Inv (fun k => w.heap.size ≤ k) H'.length σ H' w := ⟨hinv.blk, hinv.inj, fun i b L hb ho hli hL => by
        have := (List.getElem?_eq_some_iff.1 hb).1
        omega, fun b hb => hb, hinv.dom⟩
      refine (call_sound hE n ih (hE.tr _ _ e) hx (Nat.le_refl _) hinv' ha).mono fun en w' hp => ?_
      obtain ⟨v', σ', rfl, h1, h2, h3, h4, h5⟩ := hp
      have hsm : ∀ k, k < w.heap.size → w'.heap[k]? = w.heap[k]? := fun k hk => h3.block k (by omega)
      refine ⟨v', σ, rfl, h1.flat_self 4 hfl, hinv.world h3.size hsm, ⟨h3.os, h3.tape, h3.output, h3.size, fun k hk => hsm k ?_⟩, Sig.le_refl _, fun j hj => absurd rfl hj⟩
      rcases Nat.lt_or_ge k w.heap.size with h | h
      · exact h
      · exact absurd (hinv.fresh k h) hk
    · exact call_sound hE n ih (hE.tr _ _ e) hx hl hinv ha
  · exact fun mp lim g as H v H' h hl => (hgrow mp lim g as H v H' h hl).2

/-- THE END: a run of a function that is not called from elsewhere. -/
theorem calls_of_run (hE : EnvOk P E) {g : FuncId} {af : AFunc} (ht : trFunc P E.pure g = some af) {n : Nat} {as as' : List Value} {v : Value} (hx : aRun E n af lim [.code af.body] (frame0 as) H = some (v, H')) (hl : lim ≤ H.length)
    (hinv : Inv W lim σ H w) (ha : LRel σ as as') : Calls P g as'.toArray w (CallPost W lim σ H v H' w) :=
  call_sound hE n (fun m _ => callOk hE m) ht hx hl hinv ha

theorem Inv.nil (w : World) : Inv (fun k => w.heap.size ≤ k) 0 (fun _ => none) [] w :=
  ⟨fun i b hb => by simp at hb, fun i j bi bj Li Lj hb => by simp at hb, fun i b L hb => by simp at hb, fun b hb => hb, fun _ _ => rfl⟩
end
end Go.AM
set_option linter.unusedVariables false
set_option linter.unusedSimpArgs false
namespace Go.AM
universe u
namespace Sym
abbrev t (n : Nat) : Operand := .tmp n
abbrev k (v : Value) : Operand := .const v
abbrev i (d : Nat) (o : AOp) : AIns := ⟨some d, none, o, none, []⟩
end Sym

/-- What simp is not to enter: an argument that a later argument's type names. -/
structure Bx {α : Sort u} (a : α) : Type where

def Ret (E : Env) (af : AFunc) (lim : Nat) (k : List AItem) (fr : Nat → Value) (H : Heap) (R : Value → Heap → Prop) (_ : Bx k := ⟨⟩) (_ : Bx R := ⟨⟩) : Prop :=
  ∃ n v H', aRun E n af lim k fr H = some (v, H') ∧ R v H'
def CallR (E : Env) (mp : Bool) (lim : Nat) (g : FuncId) (as : List Value) (H : Heap) (R : Value → Heap → Prop) (_ : Bx R := ⟨⟩) : Prop :=
  ∃ n v H', aCall E n mp lim g as H = some (v, H') ∧ R v H'

def opK (r : Option (Value × Heap)) (f : Value → Heap → Prop) (_ : Bx f := ⟨⟩) : Prop := match r with | some (v, H') => f v H' | none => False
def condK (v : Value) (p q : Prop) (_ : Bx p := ⟨⟩) (_ : Bx q := ⟨⟩) : Prop := match v with | .bool true => p | .bool false => q | _ => False
def wantK (v : Value) (b : Bool) (p q : Prop) (_ : Bx p := ⟨⟩) (_ : Bx q := ⟨⟩) : Prop := match v with | .bool c => if c = b then p else q | _ => q

section
variable {E : Env} {af : AFunc} {lim : Nat} {K : List AItem} {fr : Nat → Value} {H : Heap} {R : Value → Heap → Prop}

theorem Ret.succ {k k1 : List AItem} {fr fr1 : Nat → Value} {H H1 : Heap} (h : ∀ n, aRun E (n + 1) af lim k fr H = aRun E n af lim k1 fr1 H1) : Ret E af lim k fr H R = Ret E af lim k1 fr1 H1 R := by
  apply propext
  constructor
  · rintro ⟨n, v, H', hx, hr⟩
    cases n with
    | zero => simp [aRun] at hx
    | succ n => rw [h] at hx; exact ⟨n, v, H', hx, hr⟩
  · rintro ⟨n, v, H', hx, hr⟩
    exact ⟨n + 1, v, H', by rw [h]; exact hx, hr⟩
theorem Ret_fin {k : List AItem} (h : ∀ n, aRun E (n + 1) af lim k fr H = (result fr H af.results).map (·, H)) : Ret E af lim k fr H R = opK ((result fr H af.results).map (·, H)) R := by
  apply propext
  constructor
  · rintro ⟨n, v, H', hx, hr⟩
    cases n with
    | zero => simp [aRun] at hx
    | succ n => rw [h] at hx; rw [hx]; exact hr
  · intro hk
    cases hx : (result fr H af.results).map (·, H) with
    | none => rw [hx] at hk; exact hk.elim
    | some p => rw [hx] at hk; exact ⟨1, p.1, p.2, by rw [h, hx], hk⟩

theorem Ret_seq {a b} : Ret E af lim (.code (.seq a b) :: K) fr H R = Ret E af lim (.code a :: .code b :: K) fr H R := Ret.succ fun n => by rw [aRun.eq_def]
theorem Ret_skip : Ret E af lim (.code .skip :: K) fr H R = Ret E af lim K fr H R := Ret.succ fun n => by rw [aRun.eq_def]
theorem Ret_cops {l} : Ret E af lim (.code (.ops l) :: K) fr H R = Ret E af lim (.ops none l :: K) fr H R := Ret.succ fun n => by rw [aRun.eq_def]
theorem Ret_drawn {m l} : Ret E af lim (.code (.drawn m l) :: K) fr H R = Ret E af lim (.ops (some H.length) l :: K) fr (H ++ List.replicate m .dead) R := Ret.succ fun n => by rw [aRun.eq_def]
theorem Ret_ret : Ret E af lim (.code .ret :: K) fr H R = opK ((result fr H af.results).map (·, H)) R := Ret_fin fun n => by rw [aRun.eq_def]
theorem Ret_nil : Ret E af lim [] fr H R = opK ((result fr H af.results).map (·, H)) R := Ret_fin fun n => by rw [aRun.eq_def]
theorem Ret_block {id b} : Ret E af lim (.code (.block id b) :: K) fr H R = Ret E af lim (.code b :: .inBlock id :: K) fr H R := Ret.succ fun n => by rw [aRun.eq_def]
theorem Ret_inBlock {id} : Ret E af lim (.inBlock id :: K) fr H R = Ret E af lim K fr H R := Ret.succ fun n => by rw [aRun.eq_def]
theorem Ret_loop {b} : Ret E af lim (.code (.loop b) :: K) fr H R = Ret E af lim (.code b :: .inLoop b :: K) fr H R := Ret.succ fun n => by rw [aRun.eq_def]
theorem Ret_inLoop {b} : Ret E af lim (.inLoop b :: K) fr H R = Ret E af lim (.code b :: .inLoop b :: K) fr H R := Ret.succ fun n => by rw [aRun.eq_def]
theorem Ret_ops_nil {b} : Ret E af lim (.ops b [] :: K) fr H R = Ret E af lim K fr H R := Ret.succ fun n => by rw [aRun.eq_def]
theorem Ret_exit {id K'} (h : aExit id K = some K') : Ret E af lim (.code (.exit id) :: K) fr H R = Ret E af lim K' fr H R := Ret.succ fun n => by rw [aRun.eq_def]; simp only [h]
theorem aExit_here {id : Nat} {K : List AItem} : aExit id (.inBlock id :: K) = some K := by simp [aExit]
theorem aExit_other {id id' : Nat} {K : List AItem} (h : id' ≠ id) : aExit id (.inBlock id' :: K) = aExit id K := by simp [aExit, h]
theorem aExit_code {id : Nat} {c} {K : List AItem} : aExit id (.code c :: K) = aExit id K := by simp [aExit]
theorem aExit_loop {id : Nat} {c} {K : List AItem} : aExit id (.inLoop c :: K) = aExit id K := by simp [aExit]
theorem Ret_cond {c a b} : Ret E af lim (.code (.cond c a b) :: K) fr H R = condK (ev fr c) (Ret E af lim (.code a :: K) fr H R) (Ret E af lim (.code b :: K) fr H R) := by
  cases hc : ev fr c with
  | bool t => cases t <;> exact Ret.succ fun n => by rw [aRun.eq_def]; simp only [hc]
  | _ =>
    apply propext
    constructor
    · rintro ⟨n, v, H', hx, hr⟩
      cases n with
      | zero => simp [aRun] at hx
      | succ n => rw [aRun.eq_def] at hx; simp only [hc] at hx; cases hx
    · intro h; exact h.elim

theorem Ret.det {k : List AItem} {n m : Nat} {r r' : Value × Heap} (h : aRun E n af lim k fr H = some r) (h' : aRun E m af lim k fr H = some r') : r = r' := by
  have h1 := aRun_le E (Nat.le_max_left n m) h
  have h2 := aRun_le E (Nat.le_max_right n m) h'
  rw [h1] at h2; exact Option.some.inj h2

def isCall : AOp → Bool
  | .call .. => true
  | _ => false
def dOk (N : Nat) : Option Nat → Bool
  | none => true
  | some d => decide (d < N)
def putF (d : Option Nat) (fr : Nat → Value) (v : Value) : Nat → Value := match d with | none => fr | some d => upd fr d v
def gK (N : Nat) (fr : Nat → Value) (g : Option (Nat × Bool)) (p q : Prop) (_ : Bx p := ⟨⟩) (_ : Bx q := ⟨⟩) : Prop := match wantedA N fr g with | none => False | some true => p | some false => q
/-- What an operation comes to. -/
def oK (E : Env) (lim : Nat) (base : Option Nat) (dest : Option Nat) (mask : List Nat) (o : AOp) (fr : Nat → Value) (H : Heap) (Q : Value → Heap → Prop) (_ : Bx Q := ⟨⟩) : Prop :=
  match base with
  | none => ∃ n v H', stepOp (aCall E n) lim none o (ev fr) H = some (v, H') ∧ Q v H'
  | some b => ∃ n v H', stepOp (aCall E n) lim (dest.map (b + ·)) o (ev fr) (maskH b mask H) = some (v, H') ∧ Q v (unmaskH b mask H H')

theorem putD_ok {N : Nat} {d : Option Nat} (h : dOk N d = true) (v : Value) : putD N fr d v = some (putF d fr v) := by
  cases d with
  | none => rfl
  | some d => simp [dOk] at h; simp [putD, putF, h]

theorem Ret_cons {base : Option Nat} {x : AIns} {l : List AIns} : Ret E af lim (.ops base (x :: l) :: K) fr H R = ∃ n, ∃ fr' H', insOp (aCall E n) af.ntmps lim base x fr H = some (fr', H') ∧ Ret E af lim (.ops base l :: K) fr' H' R := by
  apply propext
  constructor
  · rintro ⟨n, v, H', hx, hr⟩
    cases n with
    | zero => simp [aRun] at hx
    | succ n =>
      rw [aRun.eq_def] at hx
      simp only at hx
      split at hx
      · rename_i fr' H1 h1
        exact ⟨n, fr', H1, h1, n, v, H', hx, hr⟩
      · cases hx
  · rintro ⟨n, fr', H1, h1, m, v, H', hx, hr⟩
    refine ⟨max n m + 1, v, H', ?_, hr⟩
    rw [aRun.eq_def]
    simp only
    have e : insOp (callWith E fun af' lim' as H' => aRun E (max n m) af' lim' [.code af'.body] (frame0 as) H') af.ntmps lim base x fr H = some (fr', H1) := insOp_mono (aCall_le E (Nat.le_max_left n m)) h1
    rw [e]
    exact aRun_le E (Nat.le_max_right n m) hx

theorem Ret_i {base d g o dest mask l} (hd : dOk af.ntmps d = true) : Ret E af lim (.ops base (⟨d, g, o, dest, mask⟩ :: l) :: K) fr H R =
    gK af.ntmps fr g (oK E lim base dest mask o fr H fun v H' => Ret E af lim (.ops base l :: K) (putF d fr v) H' R) (Ret E af lim (.ops base l :: K) (putF d fr undef) H R) := by
  rw [Ret_cons]
  unfold gK insOp insVal
  simp only
  cases hw : wantedA af.ntmps fr g with
  | none => simp
  | some t =>
    cases t with
    | false =>
      simp only [Option.map_eq_some_iff, Prod.mk.injEq, putD_ok hd]
      apply propext
      constructor
      · rintro ⟨n, fr', H', ⟨f, h1, h2, h3⟩, h4⟩
        cases h1; subst h2 h3; exact h4
      · intro h
        exact ⟨0, _, _, ⟨_, rfl, rfl, rfl⟩, h⟩
    | true =>
      cases base with
      | none =>
        simp only [oK]
        apply propext
        constructor
        · rintro ⟨n, fr', H', h1, h4⟩
          split at h1
          · rename_i v H1 h5
            rw [putD_ok hd] at h1
            simp only [Option.map_some, Option.some.injEq, Prod.mk.injEq] at h1
            obtain ⟨rfl, rfl⟩ := h1
            exact ⟨n, v, H1, h5, h4⟩
          · cases h1
        · rintro ⟨n, v, H', h1, h4⟩
          refine ⟨n, _, _, ?_, h4⟩
          rw [h1]
          simp only [putD_ok hd, Option.map_some]
      | some b =>
        simp only [oK]
        apply propext
        constructor
        · rintro ⟨n, fr', H', h1, h4⟩
          split at h1
          · rename_i v H1 h5
            split at h5
            · rename_i v' H2 h6
              cases h5
              rw [putD_ok hd] at h1
              simp only [Option.map_some, Option.some.injEq, Prod.mk.injEq] at h1
              obtain ⟨rfl, rfl⟩ := h1
              exact ⟨n, v, H2, h6, h4⟩
            · cases h5
          · cases h1
        · rintro ⟨n, v, H', h1, h4⟩
          refine ⟨n, _, _, ?_, h4⟩
          rw [h1]
          simp only [putD_ok hd, Option.map_some]

theorem gK_none {N : Nat} {p q : Prop} : gK N fr none p q = p := rfl
theorem gK_some {N g : Nat} {b : Bool} {p q : Prop} (h : g < N) : gK N fr (some (g, b)) p q = wantK (fr g) b p q := by
  unfold gK wantedA wantK
  simp only [h, if_true]
  cases fr g <;> simp
  rename_i c
  cases c <;> cases b <;> simp

variable {base dest : Option Nat} {mask : List Nat} {o : AOp} {Q : Value → Heap → Prop}
theorem stepOp_no {C : CallF} {ρ : Operand → Value} (h : isCall o = false) : stepOp C lim dest o ρ H = aOp lim dest o ρ H := by
  cases o <;> first | rfl | (simp [isCall] at h)
theorem oK_none (h : isCall o = false) : oK E lim none dest mask o fr H Q = opK (aOp lim none o (ev fr) H) Q := by
  unfold oK opK
  simp only [stepOp_no h]
  cases aOp lim none o (ev fr) H with
  | none => simp
  | some p => exact propext ⟨by rintro ⟨_, _, _, h, q⟩; cases h; exact q, fun q => ⟨0, _, _, rfl, q⟩⟩
theorem oK_some {b : Nat} (h : isCall o = false) : oK E lim (some b) dest mask o fr H Q = opK (aOp lim (dest.map (b + ·)) o (ev fr) (maskH b mask H)) fun v H' => Q v (unmaskH b mask H H') := by
  unfold oK opK
  simp only [stepOp_no h]
  cases aOp lim (dest.map (b + ·)) o (ev fr) (maskH b mask H) with
  | none => simp
  | some p => exact propext ⟨by rintro ⟨_, _, _, h, q⟩; cases h; exact q, fun q => ⟨0, _, _, rfl, q⟩⟩
def calK (c : Option (FuncId × List Value)) (f : FuncId → List Value → Prop) (_ : Bx f := ⟨⟩) : Prop := match c with | some (g, as) => f g as | none => False
theorem calK_some {g : FuncId} {as : List Value} {f : FuncId → List Value → Prop} : calK (some (g, as)) f = f g as := rfl
theorem oK_call {mp : Bool} {f : Operand} {args : List Operand} : oK E lim none dest mask (.call mp f args) fr H Q = calK (callee (ev fr f) (args.map (ev fr))) fun g as => CallR E mp lim g as H Q := by
  unfold oK calK stepOp CallR
  simp only
  cases callee (ev fr f) (args.map (ev fr)) with
  | none => simp
  | some p => obtain ⟨g, as⟩ := p; rfl
theorem oK_callB {b : Nat} {mp : Bool} {f : Operand} {args : List Operand} : oK E lim (some b) dest mask (.call mp f args) fr H Q = calK (callee (ev fr f) (args.map (ev fr))) fun g as => CallR E mp lim g as (maskH b mask H) fun v H' => Q v (unmaskH b mask H H') := by
  unfold oK calK stepOp CallR
  simp only
  cases callee (ev fr f) (args.map (ev fr)) with
  | none => simp
  | some p => obtain ⟨g, as⟩ := p; rfl

theorem CallR.det {mp : Bool} {g : FuncId} {as : List Value} {n : Nat} {v : Value} {H' : Heap} (h : aCall E n mp lim g as H = some (v, H')) : CallR E mp lim g as H Q = Q v H' := by
  apply propext
  constructor
  · rintro ⟨m, v', H1, h1, h2⟩
    have e1 := aCall_le E (Nat.le_max_left n m) _ _ _ _ _ _ h
    have e2 := aCall_le E (Nat.le_max_right n m) _ _ _ _ _ _ h1
    rw [e1] at e2; cases e2; exact h2
  · exact fun hq => ⟨n, v, H', h, hq⟩

/-- What a function that is taken as pure comes to. -/
theorem CallR_pure {mp : Bool} {g : FuncId} {as : List Value} {v : Value} (ho : E.orc g as = none) (ht : E.tr g = some af) (hp : E.pure g = true) (hf : flat 4 v = true) (h : Ret E af H.length [.code af.body] (frame0 as) H fun v' _ => v' = v) : CallR E mp lim g as H Q = Q v H := by
  obtain ⟨n, v', H', h1, rfl⟩ := h
  exact CallR.det (n := n) (by unfold aCall callWith; simp only [ho, ht, hp, if_true, h1, hf])
theorem CallR_orc {mp : Bool} {g : FuncId} {as : List Value} {v : Value} (ho : E.orc g as = some v) (ha : as.all atom = true) (hf : flat 4 v = true) : CallR E mp lim g as H Q = Q v H :=
  CallR.det (n := 0) (by unfold aCall callWith; simp only [ho, ha, hf, Bool.and_self, if_true])
/-- What any other function comes to: its run. -/
theorem CallR_run {mp : Bool} {g : FuncId} {as : List Value} (ho : E.orc g as = none) (ht : E.tr g = some af) (hp : E.pure g = false) (hm : mp = false) : CallR E mp lim g as H Q = Ret E af lim [.code af.body] (frame0 as) H Q := by
  unfold CallR Ret aCall callWith
  simp only [ho, ht, hp, hm, Bool.false_eq_true, if_false]
end

section
variable {E : Env} {af : AFunc} {lim : Nat} {K : List AItem} {fr fr' : Nat → Value} {H H' : Heap} {R : Value → Heap → Prop}
theorem Ret_congr {k : List AItem} (h1 : fr = fr') (h2 : H = H') : Ret E af lim k fr H R = Ret E af lim k fr' H' R := by rw [h1, h2]
theorem CallR_congr {mp : Bool} {g : FuncId} {as as' : List Value} (h1 : as = as') (h2 : H = H') : CallR E mp lim g as H R = CallR E mp lim g as' H' R := by rw [h1, h2]
theorem opK_congr {r r' : Option (Value × Heap)} {f : Value → Heap → Prop} (h : r = r') : opK r f = opK r' f := by rw [h]
theorem opK_some {v : Value} {f : Value → Heap → Prop} : opK (some (v, H)) f = f v H := rfl
theorem opK_none {f : Value → Heap → Prop} : opK none f = False := rfl
theorem condK_congr {v v' : Value} {p q : Prop} (h : v = v') : condK v p q = condK v' p q := by rw [h]
theorem condK_bool {b : Bool} {p q : Prop} : condK (.bool b) p q = if b = true then p else q := by cases b <;> simp [condK]
theorem wantK_congr {v v' : Value} {b : Bool} {p q : Prop} (h : v = v') : wantK v b p q = wantK v' b p q := by rw [h]
theorem wantK_t {c : Bool} {p q : Prop} : wantK (.bool c) true p q = if c = true then p else q := rfl
theorem wantK_f {c : Bool} {p q : Prop} : wantK (.bool c) false p q = if c = true then q else p := by cases c <;> simp [wantK]
theorem calK_congr {c c' : Option (FuncId × List Value)} {f : FuncId → List Value → Prop} (h : c = c') : calK c f = calK c' f := by rw [h]
theorem gK_congr {N N' : Nat} {g : Option (Nat × Bool)} {p q : Prop} (h : N = N') : gK N fr g p q = gK N' fr g p q := by rw [h]
theorem oK_congr {base dest : Option Nat} {mask : List Nat} {o : AOp} {Q : Value → Heap → Prop} (h : H = H') : oK E lim base dest mask o fr H Q = oK E lim base dest mask o fr H' Q := by rw [h]

theorem upd_same {d : Nat} {v : Value} : upd fr d v d = v := by simp [upd]
theorem upd_ne {d t : Nat} {v : Value} (h : t ≠ d) : upd fr d v t = fr t := by simp [upd, h]
theorem ev_tmp {t : Nat} : ev fr (.tmp t) = fr t := rfl
theorem ev_const {v : Value} : ev fr (.const v) = v := rfl
theorem ev_func {f : FuncId} : ev fr (.func f) = .func (.func f) #[] #[] := rfl
theorem result1 {x : Nat} : result fr H [.tmp x] = some (fr x) := rfl
theorem hget_old {X : Heap} {j : Nat} (h : j < H.length) : hget (H ++ X) j = hget H j := by
  unfold hget; rw [List.getD_eq_getElem?_getD, List.getD_eq_getElem?_getD, List.getElem?_append_left h]
theorem hget_new {X : Heap} {j : Nat} : hget (H ++ X) (H.length + j) = X.getD j .dead := by
  unfold hget; rw [List.getD_eq_getElem?_getD, List.getD_eq_getElem?_getD, List.getElem?_append_right (by omega)]; simp
theorem hget_new0 {X : Heap} : hget (H ++ X) H.length = X.getD 0 .dead := hget_new (j := 0)
theorem set_new {X : Heap} {j : Nat} {b : Blk} : (H ++ X).set (H.length + j) b = H ++ X.set j b := by
  rw [List.set_append_right _ _ (by omega)]; simp
theorem set_new0 {X : Heap} {b : Blk} : (H ++ X).set H.length b = H ++ X.set 0 b := set_new (j := 0)
theorem mask_nil {b : Nat} : maskH b [] H = H := rfl
theorem unmask_nil {b : Nat} {H0 : Heap} : unmaskH b [] H0 H = H := rfl
end
section
variable {E : Env} {lim b : Nat} {dest : Option Nat} {mask : List Nat} {fr : Nat → Value} {H : Heap} {Q : Value → Heap → Prop}
theorem on_mov {qx : Operand} : oK E lim none dest mask (.mov qx) fr H Q = opK (aOp lim none (.mov qx) (ev fr) H) Q := oK_none rfl
theorem ob_mov {qx : Operand} : oK E lim (some b) dest mask (.mov qx) fr H Q = opK (aOp lim (dest.map (b + ·)) (.mov qx) (ev fr) (maskH b mask H)) fun v H' => Q v (unmaskH b mask H H') := oK_some rfl
theorem on_pick {qc qa qb : Operand} : oK E lim none dest mask (.pick qc qa qb) fr H Q = opK (aOp lim none (.pick qc qa qb) (ev fr) H) Q := oK_none rfl
theorem ob_pick {qc qa qb : Operand} : oK E lim (some b) dest mask (.pick qc qa qb) fr H Q = opK (aOp lim (dest.map (b + ·)) (.pick qc qa qb) (ev fr) (maskH b mask H)) fun v H' => Q v (unmaskH b mask H H') := oK_some rfl
theorem on_bin {qop : BinOp} {qx qy : Operand} : oK E lim none dest mask (.bin qop qx qy) fr H Q = opK (aOp lim none (.bin qop qx qy) (ev fr) H) Q := oK_none rfl
theorem ob_bin {qop : BinOp} {qx qy : Operand} : oK E lim (some b) dest mask (.bin qop qx qy) fr H Q = opK (aOp lim (dest.map (b + ·)) (.bin qop qx qy) (ev fr) (maskH b mask H)) fun v H' => Q v (unmaskH b mask H H') := oK_some rfl
theorem on_eqv {qneg : Bool} {qk : EqKind} {qx qy : Operand} : oK E lim none dest mask (.eqv qneg qk qx qy) fr H Q = opK (aOp lim none (.eqv qneg qk qx qy) (ev fr) H) Q := oK_none rfl
theorem ob_eqv {qneg : Bool} {qk : EqKind} {qx qy : Operand} : oK E lim (some b) dest mask (.eqv qneg qk qx qy) fr H Q = opK (aOp lim (dest.map (b + ·)) (.eqv qneg qk qx qy) (ev fr) (maskH b mask H)) fun v H' => Q v (unmaskH b mask H H') := oK_some rfl
theorem on_un {qop : UnOp} {qx : Operand} : oK E lim none dest mask (.un qop qx) fr H Q = opK (aOp lim none (.un qop qx) (ev fr) H) Q := oK_none rfl
theorem ob_un {qop : UnOp} {qx : Operand} : oK E lim (some b) dest mask (.un qop qx) fr H Q = opK (aOp lim (dest.map (b + ·)) (.un qop qx) (ev fr) (maskH b mask H)) fun v H' => Q v (unmaskH b mask H H') := oK_some rfl
theorem on_conv {qk : IntKind} {qx : Operand} : oK E lim none dest mask (.conv qk qx) fr H Q = opK (aOp lim none (.conv qk qx) (ev fr) H) Q := oK_none rfl
theorem ob_conv {qk : IntKind} {qx : Operand} : oK E lim (some b) dest mask (.conv qk qx) fr H Q = opK (aOp lim (dest.map (b + ·)) (.conv qk qx) (ev fr) (maskH b mask H)) fun v H' => Q v (unmaskH b mask H H') := oK_some rfl
theorem on_alloc {qzero : List Value} : oK E lim none dest mask (.alloc qzero) fr H Q = opK (aOp lim none (.alloc qzero) (ev fr) H) Q := oK_none rfl
theorem ob_alloc {qzero : List Value} : oK E lim (some b) dest mask (.alloc qzero) fr H Q = opK (aOp lim (dest.map (b + ·)) (.alloc qzero) (ev fr) (maskH b mask H)) fun v H' => Q v (unmaskH b mask H H') := oK_some rfl
theorem on_box {qx : Operand} : oK E lim none dest mask (.box qx) fr H Q = opK (aOp lim none (.box qx) (ev fr) H) Q := oK_none rfl
theorem ob_box {qx : Operand} : oK E lim (some b) dest mask (.box qx) fr H Q = opK (aOp lim (dest.map (b + ·)) (.box qx) (ev fr) (maskH b mask H)) fun v H' => Q v (unmaskH b mask H H') := oK_some rfl
theorem on_build {qzero : List Value} {qparts : List (Nat × Nat × Operand)} : oK E lim none dest mask (.build qzero qparts) fr H Q = opK (aOp lim none (.build qzero qparts) (ev fr) H) Q := oK_none rfl
theorem ob_build {qzero : List Value} {qparts : List (Nat × Nat × Operand)} : oK E lim (some b) dest mask (.build qzero qparts) fr H Q = opK (aOp lim (dest.map (b + ·)) (.build qzero qparts) (ev fr) (maskH b mask H)) fun v H' => Q v (unmaskH b mask H H') := oK_some rfl
theorem on_buildSlice {qlen : Nat} {qzero : List Value} {qparts : List (Nat × Nat × Operand)} : oK E lim none dest mask (.buildSlice qlen qzero qparts) fr H Q = opK (aOp lim none (.buildSlice qlen qzero qparts) (ev fr) H) Q := oK_none rfl
theorem ob_buildSlice {qlen : Nat} {qzero : List Value} {qparts : List (Nat × Nat × Operand)} : oK E lim (some b) dest mask (.buildSlice qlen qzero qparts) fr H Q = opK (aOp lim (dest.map (b + ·)) (.buildSlice qlen qzero qparts) (ev fr) (maskH b mask H)) fun v H' => Q v (unmaskH b mask H H') := oK_some rfl
theorem on_load1 {qa : Operand} : oK E lim none dest mask (.load1 qa) fr H Q = opK (aOp lim none (.load1 qa) (ev fr) H) Q := oK_none rfl
theorem ob_load1 {qa : Operand} : oK E lim (some b) dest mask (.load1 qa) fr H Q = opK (aOp lim (dest.map (b + ·)) (.load1 qa) (ev fr) (maskH b mask H)) fun v H' => Q v (unmaskH b mask H H') := oK_some rfl
theorem on_loadN {qn : Nat} {qa : Operand} : oK E lim none dest mask (.loadN qn qa) fr H Q = opK (aOp lim none (.loadN qn qa) (ev fr) H) Q := oK_none rfl
theorem ob_loadN {qn : Nat} {qa : Operand} : oK E lim (some b) dest mask (.loadN qn qa) fr H Q = opK (aOp lim (dest.map (b + ·)) (.loadN qn qa) (ev fr) (maskH b mask H)) fun v H' => Q v (unmaskH b mask H H') := oK_some rfl
theorem on_store {qn : Nat} {qa qx : Operand} : oK E lim none dest mask (.store qn qa qx) fr H Q = opK (aOp lim none (.store qn qa qx) (ev fr) H) Q := oK_none rfl
theorem ob_store {qn : Nat} {qa qx : Operand} : oK E lim (some b) dest mask (.store qn qa qx) fr H Q = opK (aOp lim (dest.map (b + ·)) (.store qn qa qx) (ev fr) (maskH b mask H)) fun v H' => Q v (unmaskH b mask H H') := oK_some rfl
theorem on_nilCheck {qx : Operand} : oK E lim none dest mask (.nilCheck qx) fr H Q = opK (aOp lim none (.nilCheck qx) (ev fr) H) Q := oK_none rfl
theorem ob_nilCheck {qx : Operand} : oK E lim (some b) dest mask (.nilCheck qx) fr H Q = opK (aOp lim (dest.map (b + ·)) (.nilCheck qx) (ev fr) (maskH b mask H)) fun v H' => Q v (unmaskH b mask H H') := oK_some rfl
theorem on_fieldAddr {qoff : Nat} {qa : Operand} : oK E lim none dest mask (.fieldAddr qoff qa) fr H Q = opK (aOp lim none (.fieldAddr qoff qa) (ev fr) H) Q := oK_none rfl
theorem ob_fieldAddr {qoff : Nat} {qa : Operand} : oK E lim (some b) dest mask (.fieldAddr qoff qa) fr H Q = opK (aOp lim (dest.map (b + ·)) (.fieldAddr qoff qa) (ev fr) (maskH b mask H)) fun v H' => Q v (unmaskH b mask H H') := oK_some rfl
theorem on_field1 {qoff : Nat} {qx : Operand} : oK E lim none dest mask (.field1 qoff qx) fr H Q = opK (aOp lim none (.field1 qoff qx) (ev fr) H) Q := oK_none rfl
theorem ob_field1 {qoff : Nat} {qx : Operand} : oK E lim (some b) dest mask (.field1 qoff qx) fr H Q = opK (aOp lim (dest.map (b + ·)) (.field1 qoff qx) (ev fr) (maskH b mask H)) fun v H' => Q v (unmaskH b mask H H') := oK_some rfl
theorem on_fieldN {qoff qn : Nat} {qx : Operand} : oK E lim none dest mask (.fieldN qoff qn qx) fr H Q = opK (aOp lim none (.fieldN qoff qn qx) (ev fr) H) Q := oK_none rfl
theorem ob_fieldN {qoff qn : Nat} {qx : Operand} : oK E lim (some b) dest mask (.fieldN qoff qn qx) fr H Q = opK (aOp lim (dest.map (b + ·)) (.fieldN qoff qn qx) (ev fr) (maskH b mask H)) fun v H' => Q v (unmaskH b mask H H') := oK_some rfl
theorem on_idxAddrA {qlen qesz : Nat} {qx qi : Operand} : oK E lim none dest mask (.idxAddrA qlen qesz qx qi) fr H Q = opK (aOp lim none (.idxAddrA qlen qesz qx qi) (ev fr) H) Q := oK_none rfl
theorem ob_idxAddrA {qlen qesz : Nat} {qx qi : Operand} : oK E lim (some b) dest mask (.idxAddrA qlen qesz qx qi) fr H Q = opK (aOp lim (dest.map (b + ·)) (.idxAddrA qlen qesz qx qi) (ev fr) (maskH b mask H)) fun v H' => Q v (unmaskH b mask H H') := oK_some rfl
theorem on_idxA {qlen qesz : Nat} {qagg : Bool} {qx qi : Operand} : oK E lim none dest mask (.idxA qlen qesz qagg qx qi) fr H Q = opK (aOp lim none (.idxA qlen qesz qagg qx qi) (ev fr) H) Q := oK_none rfl
theorem ob_idxA {qlen qesz : Nat} {qagg : Bool} {qx qi : Operand} : oK E lim (some b) dest mask (.idxA qlen qesz qagg qx qi) fr H Q = opK (aOp lim (dest.map (b + ·)) (.idxA qlen qesz qagg qx qi) (ev fr) (maskH b mask H)) fun v H' => Q v (unmaskH b mask H H') := oK_some rfl
theorem on_idxStr {qx qi : Operand} : oK E lim none dest mask (.idxStr qx qi) fr H Q = opK (aOp lim none (.idxStr qx qi) (ev fr) H) Q := oK_none rfl
theorem ob_idxStr {qx qi : Operand} : oK E lim (some b) dest mask (.idxStr qx qi) fr H Q = opK (aOp lim (dest.map (b + ·)) (.idxStr qx qi) (ev fr) (maskH b mask H)) fun v H' => Q v (unmaskH b mask H H') := oK_some rfl
theorem on_sliceS {qesz : Nat} {qx : Operand} {qlo qhi qmx : Option Operand} : oK E lim none dest mask (.sliceS qesz qx qlo qhi qmx) fr H Q = opK (aOp lim none (.sliceS qesz qx qlo qhi qmx) (ev fr) H) Q := oK_none rfl
theorem ob_sliceS {qesz : Nat} {qx : Operand} {qlo qhi qmx : Option Operand} : oK E lim (some b) dest mask (.sliceS qesz qx qlo qhi qmx) fr H Q = opK (aOp lim (dest.map (b + ·)) (.sliceS qesz qx qlo qhi qmx) (ev fr) (maskH b mask H)) fun v H' => Q v (unmaskH b mask H H') := oK_some rfl
theorem on_sliceA {qn qesz : Nat} {qx : Operand} {qlo qhi qmx : Option Operand} : oK E lim none dest mask (.sliceA qn qesz qx qlo qhi qmx) fr H Q = opK (aOp lim none (.sliceA qn qesz qx qlo qhi qmx) (ev fr) H) Q := oK_none rfl
theorem ob_sliceA {qn qesz : Nat} {qx : Operand} {qlo qhi qmx : Option Operand} : oK E lim (some b) dest mask (.sliceA qn qesz qx qlo qhi qmx) fr H Q = opK (aOp lim (dest.map (b + ·)) (.sliceA qn qesz qx qlo qhi qmx) (ev fr) (maskH b mask H)) fun v H' => Q v (unmaskH b mask H H') := oK_some rfl
theorem on_sliceStr {qx : Operand} {qlo qhi : Option Operand} : oK E lim none dest mask (.sliceStr qx qlo qhi) fr H Q = opK (aOp lim none (.sliceStr qx qlo qhi) (ev fr) H) Q := oK_none rfl
theorem ob_sliceStr {qx : Operand} {qlo qhi : Option Operand} : oK E lim (some b) dest mask (.sliceStr qx qlo qhi) fr H Q = opK (aOp lim (dest.map (b + ·)) (.sliceStr qx qlo qhi) (ev fr) (maskH b mask H)) fun v H' => Q v (unmaskH b mask H H') := oK_some rfl
theorem on_lenStr {qx : Operand} : oK E lim none dest mask (.lenStr qx) fr H Q = opK (aOp lim none (.lenStr qx) (ev fr) H) Q := oK_none rfl
theorem ob_lenStr {qx : Operand} : oK E lim (some b) dest mask (.lenStr qx) fr H Q = opK (aOp lim (dest.map (b + ·)) (.lenStr qx) (ev fr) (maskH b mask H)) fun v H' => Q v (unmaskH b mask H H') := oK_some rfl
theorem on_lenSlice {qx : Operand} : oK E lim none dest mask (.lenSlice qx) fr H Q = opK (aOp lim none (.lenSlice qx) (ev fr) H) Q := oK_none rfl
theorem ob_lenSlice {qx : Operand} : oK E lim (some b) dest mask (.lenSlice qx) fr H Q = opK (aOp lim (dest.map (b + ·)) (.lenSlice qx) (ev fr) (maskH b mask H)) fun v H' => Q v (unmaskH b mask H H') := oK_some rfl
theorem on_lenMap {qx : Operand} : oK E lim none dest mask (.lenMap qx) fr H Q = opK (aOp lim none (.lenMap qx) (ev fr) H) Q := oK_none rfl
theorem ob_lenMap {qx : Operand} : oK E lim (some b) dest mask (.lenMap qx) fr H Q = opK (aOp lim (dest.map (b + ·)) (.lenMap qx) (ev fr) (maskH b mask H)) fun v H' => Q v (unmaskH b mask H H') := oK_some rfl
theorem on_lenK {qn : Nat} : oK E lim none dest mask (.lenK qn) fr H Q = opK (aOp lim none (.lenK qn) (ev fr) H) Q := oK_none rfl
theorem ob_lenK {qn : Nat} : oK E lim (some b) dest mask (.lenK qn) fr H Q = opK (aOp lim (dest.map (b + ·)) (.lenK qn) (ev fr) (maskH b mask H)) fun v H' => Q v (unmaskH b mask H H') := oK_some rfl
theorem on_append {qesz qbytes : Nat} {qstr : Bool} {qs qx : Operand} : oK E lim none dest mask (.append qesz qbytes qstr qs qx) fr H Q = opK (aOp lim none (.append qesz qbytes qstr qs qx) (ev fr) H) Q := oK_none rfl
theorem ob_append {qesz qbytes : Nat} {qstr : Bool} {qs qx : Operand} : oK E lim (some b) dest mask (.append qesz qbytes qstr qs qx) fr H Q = opK (aOp lim (dest.map (b + ·)) (.append qesz qbytes qstr qs qx) (ev fr) (maskH b mask H)) fun v H' => Q v (unmaskH b mask H H') := oK_some rfl
theorem on_append0 {qesz qbytes : Nat} {qstr : Bool} {qs qx : Operand} : oK E lim none dest mask (.append0 qesz qbytes qstr qs qx) fr H Q = opK (aOp lim none (.append0 qesz qbytes qstr qs qx) (ev fr) H) Q := oK_none rfl
theorem ob_append0 {qesz qbytes : Nat} {qstr : Bool} {qs qx : Operand} : oK E lim (some b) dest mask (.append0 qesz qbytes qstr qs qx) fr H Q = opK (aOp lim (dest.map (b + ·)) (.append0 qesz qbytes qstr qs qx) (ev fr) (maskH b mask H)) fun v H' => Q v (unmaskH b mask H H') := oK_some rfl
theorem on_copy {qesz : Nat} {qd qx : Operand} : oK E lim none dest mask (.copy qesz qd qx) fr H Q = opK (aOp lim none (.copy qesz qd qx) (ev fr) H) Q := oK_none rfl
theorem ob_copy {qesz : Nat} {qd qx : Operand} : oK E lim (some b) dest mask (.copy qesz qd qx) fr H Q = opK (aOp lim (dest.map (b + ·)) (.copy qesz qd qx) (ev fr) (maskH b mask H)) fun v H' => Q v (unmaskH b mask H H') := oK_some rfl
theorem on_minmax {qmx : Bool} {qxs : List Operand} : oK E lim none dest mask (.minmax qmx qxs) fr H Q = opK (aOp lim none (.minmax qmx qxs) (ev fr) H) Q := oK_none rfl
theorem ob_minmax {qmx : Bool} {qxs : List Operand} : oK E lim (some b) dest mask (.minmax qmx qxs) fr H Q = opK (aOp lim (dest.map (b + ·)) (.minmax qmx qxs) (ev fr) (maskH b mask H)) fun v H' => Q v (unmaskH b mask H H') := oK_some rfl
theorem on_makeSlice {qesz qbytes : Nat} {qzero : List Value} {qlen qcap : Operand} : oK E lim none dest mask (.makeSlice qesz qbytes qzero qlen qcap) fr H Q = opK (aOp lim none (.makeSlice qesz qbytes qzero qlen qcap) (ev fr) H) Q := oK_none rfl
theorem ob_makeSlice {qesz qbytes : Nat} {qzero : List Value} {qlen qcap : Operand} : oK E lim (some b) dest mask (.makeSlice qesz qbytes qzero qlen qcap) fr H Q = opK (aOp lim (dest.map (b + ·)) (.makeSlice qesz qbytes qzero qlen qcap) (ev fr) (maskH b mask H)) fun v H' => Q v (unmaskH b mask H H') := oK_some rfl
theorem on_makeMap {qhint : Option Operand} : oK E lim none dest mask (.makeMap qhint) fr H Q = opK (aOp lim none (.makeMap qhint) (ev fr) H) Q := oK_none rfl
theorem ob_makeMap {qhint : Option Operand} : oK E lim (some b) dest mask (.makeMap qhint) fr H Q = opK (aOp lim (dest.map (b + ·)) (.makeMap qhint) (ev fr) (maskH b mask H)) fun v H' => Q v (unmaskH b mask H H') := oK_some rfl
theorem on_lookup {qkk : KK} {qzero : Value} {qok : Bool} {qm qkey : Operand} : oK E lim none dest mask (.lookup qkk qzero qok qm qkey) fr H Q = opK (aOp lim none (.lookup qkk qzero qok qm qkey) (ev fr) H) Q := oK_none rfl
theorem ob_lookup {qkk : KK} {qzero : Value} {qok : Bool} {qm qkey : Operand} : oK E lim (some b) dest mask (.lookup qkk qzero qok qm qkey) fr H Q = opK (aOp lim (dest.map (b + ·)) (.lookup qkk qzero qok qm qkey) (ev fr) (maskH b mask H)) fun v H' => Q v (unmaskH b mask H H') := oK_some rfl
theorem on_mapUpdate {qkk : KK} {qm qkey qv : Operand} : oK E lim none dest mask (.mapUpdate qkk qm qkey qv) fr H Q = opK (aOp lim none (.mapUpdate qkk qm qkey qv) (ev fr) H) Q := oK_none rfl
theorem ob_mapUpdate {qkk : KK} {qm qkey qv : Operand} : oK E lim (some b) dest mask (.mapUpdate qkk qm qkey qv) fr H Q = opK (aOp lim (dest.map (b + ·)) (.mapUpdate qkk qm qkey qv) (ev fr) (maskH b mask H)) fun v H' => Q v (unmaskH b mask H H') := oK_some rfl
theorem on_delete {qkk : KK} {qm qkey : Operand} : oK E lim none dest mask (.delete qkk qm qkey) fr H Q = opK (aOp lim none (.delete qkk qm qkey) (ev fr) H) Q := oK_none rfl
theorem ob_delete {qkk : KK} {qm qkey : Operand} : oK E lim (some b) dest mask (.delete qkk qm qkey) fr H Q = opK (aOp lim (dest.map (b + ·)) (.delete qkk qm qkey) (ev fr) (maskH b mask H)) fun v H' => Q v (unmaskH b mask H H') := oK_some rfl
theorem on_makeFunc {qf : FuncId} {qfirst qcaptured : List Operand} : oK E lim none dest mask (.makeFunc qf qfirst qcaptured) fr H Q = opK (aOp lim none (.makeFunc qf qfirst qcaptured) (ev fr) H) Q := oK_none rfl
theorem ob_makeFunc {qf : FuncId} {qfirst qcaptured : List Operand} : oK E lim (some b) dest mask (.makeFunc qf qfirst qcaptured) fr H Q = opK (aOp lim (dest.map (b + ·)) (.makeFunc qf qfirst qcaptured) (ev fr) (maskH b mask H)) fun v H' => Q v (unmaskH b mask H H') := oK_some rfl
theorem on_extract {qi : Nat} {qx : Operand} : oK E lim none dest mask (.extract qi qx) fr H Q = opK (aOp lim none (.extract qi qx) (ev fr) H) Q := oK_none rfl
theorem ob_extract {qi : Nat} {qx : Operand} : oK E lim (some b) dest mask (.extract qi qx) fr H Q = opK (aOp lim (dest.map (b + ·)) (.extract qi qx) (ev fr) (maskH b mask H)) fun v H' => Q v (unmaskH b mask H H') := oK_some rfl
theorem on_b2s {qx : Operand} : oK E lim none dest mask (.b2s qx) fr H Q = opK (aOp lim none (.b2s qx) (ev fr) H) Q := oK_none rfl
theorem ob_b2s {qx : Operand} : oK E lim (some b) dest mask (.b2s qx) fr H Q = opK (aOp lim (dest.map (b + ·)) (.b2s qx) (ev fr) (maskH b mask H)) fun v H' => Q v (unmaskH b mask H H') := oK_some rfl
theorem on_strId {qx : Operand} : oK E lim none dest mask (.strId qx) fr H Q = opK (aOp lim none (.strId qx) (ev fr) H) Q := oK_none rfl
theorem ob_strId {qx : Operand} : oK E lim (some b) dest mask (.strId qx) fr H Q = opK (aOp lim (dest.map (b + ·)) (.strId qx) (ev fr) (maskH b mask H)) fun v H' => Q v (unmaskH b mask H H') := oK_some rfl
end

section
variable {E : Env} {af : AFunc} {lim : Nat} {K : List AItem} {fr : Nat → Value} {H : Heap} {R : Value → Heap → Prop}
theorem Ret_is {base g o dest mask l} {d : Nat} (hd : d < af.ntmps) : Ret E af lim (.ops base (⟨some d, g, o, dest, mask⟩ :: l) :: K) fr H R =
    gK af.ntmps fr g (oK E lim base dest mask o fr H fun v H' => Ret E af lim (.ops base l :: K) (upd fr d v) H' R) (Ret E af lim (.ops base l :: K) (upd fr d undef) H R) := Ret_i (d := some d) (by simp [dOk, hd])
theorem Ret_in {base g o dest mask l} : Ret E af lim (.ops base (⟨none, g, o, dest, mask⟩ :: l) :: K) fr H R =
    gK af.ntmps fr g (oK E lim base dest mask o fr H fun v H' => Ret E af lim (.ops base l :: K) fr H' R) (Ret E af lim (.ops base l :: K) fr H R) := Ret_i (d := none) rfl
end

section
variable {E : Env} {af : AFunc} {lim : Nat} {K : List AItem} {fr : Nat → Value} {H : Heap} {R : Value → Heap → Prop}
/-- Out of a loop, at its head. -/
theorem Ret_out {id : Nat} {c b : ACode} : Ret E af lim (.code (.exit id) :: .code c :: .inLoop b :: .inBlock id :: K) fr H R = Ret E af lim K fr H R := Ret_exit (by simp [aExit])
/-- Out of a loop, from within its block. -/
theorem Ret_out2 {id id' : Nat} {c b : ACode} (h : id' ≠ id) : Ret E af lim (.code (.exit id) :: .inBlock id' :: .code c :: .inLoop b :: .inBlock id :: K) fr H R = Ret E af lim K fr H R := Ret_exit (by simp [aExit, h])
/-- On to the next round. -/
theorem Ret_next {id : Nat} {c b : ACode} : Ret E af lim (.code (.exit id) :: .inBlock id :: .code c :: .inLoop b :: K) fr H R = Ret E af lim (.code c :: .inLoop b :: K) fr H R := Ret_exit (by simp [aExit])
end

/-! ### Cases -/
section
variable {p q : Prop} {c : Prop} [Decidable c]
theorem wantK_tt : wantK (.bool true) true p q = p := by simp [wantK]
theorem wantK_ff : wantK (.bool false) false p q = p := by simp [wantK]
theorem wantK_tf : wantK (.bool true) false p q = q := by simp [wantK]
theorem wantK_ft : wantK (.bool false) true p q = q := by simp [wantK]
theorem condK_tt : condK (.bool true) p q = p := rfl
theorem condK_ff : condK (.bool false) p q = q := rfl
theorem wantK_dec {b : Bool} (h1 : c → wantK (.bool true) b p q) (h2 : ¬ c → wantK (.bool false) b p q) : wantK (.bool (decide c)) b p q := by
  by_cases h : c
  · rw [decide_eq_true h]; exact h1 h
  · rw [decide_eq_false h]; exact h2 h
theorem condK_dec (h1 : c → p) (h2 : ¬ c → q) : condK (.bool (decide c)) p q := by
  by_cases h : c
  · rw [decide_eq_true h]; exact h1 h
  · rw [decide_eq_false h]; exact h2 h
theorem wantK_any {t b : Bool} (h1 : t = true → wantK (.bool true) b p q) (h2 : t = false → wantK (.bool false) b p q) : wantK (.bool t) b p q := by
  cases t
  · exact h2 rfl
  · exact h1 rfl
theorem condK_any {t : Bool} (h1 : t = true → p) (h2 : t = false → q) : condK (.bool t) p q := by
  cases t
  · exact h2 rfl
  · exact h1 rfl
theorem int_beq {a b : Int} : (a == b) = decide (a = b) := by by_cases h : a = b <;> simp [h]
theorem int_bne {a b : Int} : (a != b) = decide (¬ a = b) := by by_cases h : a = b <;> simp [h, bne]
theorem not_dec : (!decide c) = decide (¬ c) := by by_cases h : c <;> simp [h]
end

/-! ### Composite literals, cell by cell -/
def fillV (off size : Nat) (v : Value) (c : List Value) : Option (List Value) :=
  if v.cells.toList.length = size ∧ off + size ≤ c.length ∧ notTuple v = true then some (setAll c off v.cells.toList) else none
def fillK (ρ : Operand → Value) (rest : List (Nat × Nat × Operand)) (r : Option (List Value)) : Option (List Value) := match r with | some c => fillParts ρ rest c | none => none
theorem fillParts_cons {ρ : Operand → Value} {off size : Nat} {x : Operand} {rest : List (Nat × Nat × Operand)} {c : List Value} : fillParts ρ ((off, size, x) :: rest) c = fillK ρ rest (fillV off size (ρ x) c) := by
  unfold fillK fillV
  simp only [fillParts]
  split <;> rfl
theorem fillParts_nil {ρ : Operand → Value} {c : List Value} : fillParts ρ [] c = some c := rfl
theorem fillK_some {ρ : Operand → Value} {rest : List (Nat × Nat × Operand)} {c : List Value} : fillK ρ rest (some c) = fillParts ρ rest c := rfl
theorem fillK_congr {ρ : Operand → Value} {rest : List (Nat × Nat × Operand)} {r r' : Option (List Value)} (h : r = r') : fillK ρ rest r = fillK ρ rest r' := by rw [h]
theorem fillV_congr {off size : Nat} {v v' : Value} {c : List Value} (h : v = v') : fillV off size v c = fillV off size v' c := by rw [h]
attribute [congr] fillK_congr fillV_congr
theorem fillV_one {off : Nat} {v : Value} {c : List Value} (hv : v.oneCell' = true) (ht : notTuple v = true) (h : off < c.length) : fillV off 1 v c = some (c.set off v) := by
  cases v <;> first | (simp [Value.oneCell'] at hv; done) | (simp [notTuple] at ht; done) | (unfold fillV; rw [if_pos ⟨by simp [Value.cells], h, ht⟩]; rfl)
theorem fillV_int {off : Nat} {k : IntKind} {n : Int} {c : List Value} (h : off < c.length) : fillV off 1 (.int k n) c = some (c.set off (.int k n)) := fillV_one rfl rfl h
theorem fillV_bool {off : Nat} {b : Bool} {c : List Value} (h : off < c.length) : fillV off 1 (.bool b) c = some (c.set off (.bool b)) := fillV_one rfl rfl h
theorem fillV_func {off : Nat} {f : Fn} {a b : Array Value} {c : List Value} (h : off < c.length) : fillV off 1 (.func f a b) c = some (c.set off (.func f a b)) := fillV_one rfl rfl h
theorem fillV_agg {off n : Nat} {l c : List Value} (h : l.length = n ∧ off + n ≤ c.length) : fillV off n (.agg l.toArray) c = some (setAll c off l) := by
  unfold fillV
  rw [if_pos ⟨by simpa [Value.cells] using h.1, h.2, rfl⟩]
  rfl
theorem setAll_nil {c : List Value} {o : Nat} : setAll c o [] = c := rfl
theorem setAll_cons {c : List Value} {o : Nat} {v : Value} {vs : List Value} : setAll c o (v :: vs) = setAll (c.set o v) (o + 1) vs := rfl

/-! ### Values and results -/
section
variable {fr : Nat → Value} {H : Heap}
theorem cells_agg {a : Array Value} : (Value.agg a).cells = a := rfl
theorem cells_int {k : IntKind} {n : Int} : (Value.int k n).cells = #[.int k n] := rfl
theorem cells_bool {b : Bool} : (Value.bool b).cells = #[.bool b] := rfl
theorem arr_list {l : List Value} : l.toArray.toList = l := rfl
theorem arr_size {l : List Value} : l.toArray.size = l.length := rfl
def consK : Option Value → Option (List Value) → Option (List Value)
  | some v, some vs => some (v :: vs)
  | _, _ => none
def finK : Option (List Value) → Option Value
  | some [v] => some v
  | some vs => some (.tuple vs.toArray)
  | none => none
theorem resAll_nil : resAll fr H [] = some [] := rfl
theorem resAll_cons {r : ARes} {rs : List ARes} : resAll fr H (r :: rs) = consK (resVal fr H r) (resAll fr H rs) := by
  unfold consK
  simp only [resAll]
  cases resVal fr H r <;> cases resAll fr H rs <;> rfl
theorem result_fin {rs : List ARes} : result fr H rs = finK (resAll fr H rs) := by
  unfold finK result
  cases resAll fr H rs <;> rfl
theorem consK_some {v : Value} {vs : List Value} : consK (some v) (some vs) = some (v :: vs) := rfl
theorem finK_one {v : Value} : finK (some [v]) = some v := rfl
theorem finK_more {v u : Value} {vs : List Value} : finK (some (v :: u :: vs)) = some (.tuple (v :: u :: vs).toArray) := rfl
theorem finK_nil : finK (some []) = some (.tuple #[]) := rfl
end

/-! ### Elements of slices -/
def idxK (e : Nat) (x i : Value) (H : Heap) : Option (Value × Heap) := match x, i with
    | .slice (some p) len _, .int _ n => if 0 ≤ n ∧ n < (len : Int) then some (.pointer (some (p.add (n.toNat * e))), H) else none
    | _, _ => none
theorem aOp_idxS {lim : Nat} {dest : Option Nat} {e : Nat} {x i : Operand} {ρ : Operand → Value} {H : Heap} : aOp lim dest (.idxAddrS e x i) ρ H = idxK e (ρ x) (ρ i) H := by
  simp only [aOp]; unfold idxK; rfl
theorem idxK_nat {e n len c : Nat} {p : Addr} {k : IntKind} {H : Heap} (h : n < len) : idxK e (.slice (some p) len c) (.int k (n : Int)) H = some (.pointer (some (p.add (n * e))), H) := by
  unfold idxK
  simp only
  rw [if_pos ⟨by omega, by omega⟩]
  simp
section
variable {E : Env} {lim b : Nat} {dest : Option Nat} {mask : List Nat} {fr : Nat → Value} {H : Heap} {Q : Value → Heap → Prop}
theorem on_idxAddrS {e : Nat} {x i : Operand} : oK E lim none dest mask (.idxAddrS e x i) fr H Q = opK (idxK e (ev fr x) (ev fr i) H) Q := by rw [oK_none rfl, aOp_idxS]
theorem ob_idxAddrS {e : Nat} {x i : Operand} : oK E lim (some b) dest mask (.idxAddrS e x i) fr H Q = opK (idxK e (ev fr x) (ev fr i) (maskH b mask H)) fun v H' => Q v (unmaskH b mask H H') := by rw [oK_some rfl, aOp_idxS]
end
theorem addr_add {b o n : Nat} : (⟨b, o, none⟩ : Addr).add n = ⟨b, o + n, none⟩ := by
  simp only [Addr.add]
  first | rfl | (split <;> simp_all)
theorem wrap_nat {n : Nat} (h : n + 1 < 2 ^ 63) : IntKind.i64.wrap ((n : Int) + 1) = ((n + 1 : Nat) : Int) := by
  have h1 : ((n : Int) + 1) % 2 ^ 64 = (n : Int) + 1 := Int.emod_eq_of_lt (by omega) (by omega)
  simp only [IntKind.wrap, IntKind.bits, IntKind.signed, h1]
  rw [if_neg (by simp; omega)]
  omega

/-! ### Places that are masked -/
section
variable {b i : Nat} {l : List Nat} {H H0 : Heap}
theorem mask_cons : maskH b (i :: l) H = maskH b l (H.set (b + i) .dead) := rfl
theorem unmask_cons : unmaskH b (i :: l) H0 H = unmaskH b l H0 (H.set (b + i) (hget H0 (b + i))) := rfl
theorem pad_one : List.replicate 1 Blk.dead = [.dead] := rfl
theorem pad_zero : List.replicate 0 Blk.dead = [] := rfl
theorem pad_two : List.replicate 2 Blk.dead = [.dead, .dead] := rfl
theorem pad_three : List.replicate 3 Blk.dead = [.dead, .dead, .dead] := rfl
end
end Go.AM
