/-
  The abstract machine, part 17: two operations that do not touch each other may change places.
-/
import Derived.Test.YtlmoijifgbkapaaAm16
set_option linter.unusedVariables false
set_option linter.unusedSimpArgs false
namespace Go.AM

/-- A call where purity is asked leaves the heap; any call keeps the heap's places. -/
structure CallOk0 (C : CallF) : Prop where
  pure : ∀ lim g as H v H', C true lim g as H = some (v, H') → H' = H
  len : ∀ mp lim g as H v H', C mp lim g as H = some (v, H') → lim ≤ H.length → H.length ≤ H'.length

theorem storeAt_len {lim : Nat} {H H' : Heap} {a : Addr} {vs : List Value} (h : storeAt lim H a vs = some H') : H'.length = H.length := by
  unfold storeAt at h
  split at h
  · split at h
    · cases h; simp
    · cases h
  · cases h
theorem kind_w_len {o : AOp} (hk : kind o = .w) {lim d : Nat} {ρ : Operand → Value} {H H' : Heap} {v : Value} (h : aOp lim (some d) o ρ H = some (v, H')) : H'.length = H.length := by
  cases o <;> simp [kind] at hk <;> simp only [aOp] at h
  case store =>
    split at h
    · split at h
      · simp only [Option.map_eq_some_iff, Prod.mk.injEq] at h; obtain ⟨_, h1, _, rfl⟩ := h; exact storeAt_len h1
      · cases h
    · cases h
  case append =>
    unfold aAppend at h
    split at h
    case h_2 => cases h
    split at h
    · cases h
    split at h
    · cases h; rfl
    split at h
    · split at h
      · simp only [place_some] at h; cases h; simp
      · cases h
    · split at h
      · cases h
      split at h
      · split at h
        · split at h
          · simp only [place_some] at h; cases h; simp
          · cases h
        · cases h
      · split at h
        · split at h
          · split at h
            · rename_i h1; cases h; exact storeAt_len h1
            · cases h
          · simp only [place_some] at h; cases h; simp
        · cases h
  case copy =>
    split at h
    · split at h
      · split at h
        · split at h
          · cases h; rfl
          · simp only [Option.map_eq_some_iff, Prod.mk.injEq] at h; obtain ⟨_, h1, _, rfl⟩ := h; exact storeAt_len h1
        · split at h
          · cases h; rfl
          · cases h
      · cases h
    · cases h
  case mapUpdate =>
    split at h
    · split at h
      · split at h
        · split at h <;> cases h <;> simp
        · cases h
      · cases h
    · cases h
  case delete =>
    split at h
    · split at h <;> cases h; rfl
    · split at h
      · split at h
        · split at h <;> cases h <;> simp
        · cases h
      · cases h
    · cases h
  case call => split at hk <;> cases hk

/-- A planned operation. -/
structure Planned (x : AIns) : Prop where
  bare : kind x.op = .p ∨ kind x.op = .a ∨ kind x.op = .c → x.mask = []
  dest : makes x.op = true → ∃ r, x.dest = some r
  nodest : makes x.op = false → x.dest = none

theorem makes_a {o : AOp} (h : kind o = .a) : makes o = true := by cases o <;> simp_all [makes, kind]

theorem kind_w_len' {o : AOp} (hk : kind o = .w) (hm : makes o = false) {lim : Nat} {dest : Option Nat} {ρ : Operand → Value} {H H' : Heap} {v : Value} (h : aOp lim dest o ρ H = some (v, H')) : H'.length = H.length := by
  have key : aOp lim dest o ρ H = aOp lim (some 0) o ρ H := by
    cases o <;> simp [kind] at hk <;> simp [makes] at hm <;> rfl
  rw [key] at h
  exact kind_w_len hk h

section
variable {C : CallF} {N lim base : Nat}

/-- Without the guard. -/
def bodyVal (C : CallF) (lim base : Nat) (i : AIns) (ρ : Operand → Value) (H : Heap) : Option (Value × Heap) :=
  match stepOp C lim (i.dest.map (base + ·)) i.op ρ (maskH base i.mask H) with
  | some (v, H') => some (v, unmaskH base i.mask H H')
  | none => none
theorem insVal_some {i : AIns} {fr : Nat → Value} {H : Heap} : insVal C N lim (some base) i fr H =
    match wantedA N fr i.guard with
    | none => none
    | some false => some (undef, H)
    | some true => bodyVal C lim base i (ev fr) H := rfl

theorem stepOp_plain {o : AOp} (h : ∀ mp f args, o ≠ .call mp f args) (dest : Option Nat) (ρ : Operand → Value) (H : Heap) : stepOp C lim dest o ρ H = aOp lim dest o ρ H := by
  cases o <;> first | rfl | (exact absurd rfl (h _ _ _))

theorem kind_call {o : AOp} (h : ∃ mp f args, o = .call mp f args) : kind o = .r ∨ kind o = .c := by
  obtain ⟨mp, f, args, rfl⟩ := h
  cases mp <;> simp [kind]
theorem not_call {o : AOp} (h : kind o = .p ∨ kind o = .a ∨ kind o = .w) : ∀ mp f args, o ≠ .call mp f args := fun mp f args e => by
  rcases kind_call ⟨mp, f, args, e⟩ with h' | h' <;> rw [h'] at h <;> simp at h

theorem body_p {i : AIns} (hp : Planned i) (hk : kind i.op = .p) (ρ : Operand → Value) (H : Heap) : bodyVal C lim base i ρ H = ((aOp lim (i.dest.map (base + ·)) i.op ρ []).map (·.1)).map (·, H) := by
  unfold bodyVal
  rw [hp.bare (.inl hk), stepOp_plain (not_call (.inl hk))]
  simp only [maskH, unmaskH, List.foldl_nil]
  rw [kind_p' hk]
  cases (Option.map (fun x => x.1) (aOp lim (Option.map (fun x => base + x) i.dest) i.op ρ [])) <;> rfl

theorem body_r (hC : CallOk0 C) {i : AIns} (hk : kind i.op = .r) {ρ : Operand → Value} {H H' : Heap} {v : Value} (h : bodyVal C lim base i ρ H = some (v, H')) : H' = H := by
  unfold bodyVal at h
  split at h
  case h_2 => cases h
  rename_i v1 H1 h1
  cases h
  have : H1 = maskH base i.mask H := by
    by_cases hc : ∃ mp f args, i.op = .call mp f args
    · obtain ⟨mp, f, args, hc⟩ := hc
      rw [hc] at h1 hk
      have hmp : mp = true := by cases mp <;> simp [kind] at hk ⊢
      subst hmp
      simp only [stepOp] at h1
      split at h1
      · exact hC.pure _ _ _ _ _ _ h1
      · cases h1
    · rw [stepOp_plain (fun mp f args e => hc ⟨mp, f, args, e⟩)] at h1
      exact kind_r hk (fun mp f args e => hc ⟨mp, f, args, e⟩) h1
  rw [this, unmask_mask]

theorem body_a {i : AIns} (hp : Planned i) (hk : kind i.op = .a) {r : Nat} (hr : i.dest = some r) {ρ : Operand → Value} {H H' : Heap} {v : Value} (h : bodyVal C lim base i ρ H = some (v, H')) :
    ∃ b, H' = H.set (base + r) b ∧ ∀ H2, bodyVal C lim base i ρ H2 = some (v, H2.set (base + r) b) := by
  unfold bodyVal at h ⊢
  rw [hp.bare (.inr (.inl hk)), stepOp_plain (not_call (.inr (.inl hk))), hr] at h
  simp only [maskH, unmaskH, List.foldl_nil, Option.map_some] at h
  split at h
  case h_2 => cases h
  rename_i v1 H1 h1
  cases h
  obtain ⟨b, e1, e2⟩ := kind_a hk h1
  refine ⟨b, e1, fun H2 => ?_⟩
  rw [hp.bare (.inr (.inl hk)), stepOp_plain (not_call (.inr (.inl hk))), hr]
  simp only [maskH, unmaskH, List.foldl_nil, Option.map_some, e2]

/-- Reading and writing: a place that is masked may hold anything. -/
theorem body_masked (hC : CallOk0 C) {i : AIns} (hp : Planned i) (hk : kind i.op = .r ∨ kind i.op = .w) {r : Nat} (hr : r ∈ i.mask) (ρ : Operand → Value) (H : Heap) (b : Blk) :
    bodyVal C lim base i ρ (H.set (base + r) b) = (bodyVal C lim base i ρ H).map fun p => (p.1, p.2.set (base + r) b) := by
  unfold bodyVal
  rw [mask_set base i.mask H hr b]
  cases hs : stepOp C lim (i.dest.map (base + ·)) i.op ρ (maskH base i.mask H) with
  | none => rfl
  | some p =>
    obtain ⟨v, X⟩ := p
    simp only [Option.map_some]
    have hX : X.length = H.length := by
      rw [← mask_length base i.mask H]
      by_cases hc : ∃ mp f args, i.op = .call mp f args
      · obtain ⟨mp, f, args, hc⟩ := hc
        rw [hc] at hs hk
        have hmp : mp = true := by cases mp <;> simp [kind] at hk ⊢
        subst hmp
        simp only [stepOp] at hs
        split at hs
        · rw [hC.pure _ _ _ _ _ _ hs]
        · cases hs
      · have hnc : ∀ mp f args, i.op ≠ .call mp f args := fun mp f args e => hc ⟨mp, f, args, e⟩
        rw [stepOp_plain hnc] at hs
        rcases hk with hk | hk
        · rw [kind_r hk hnc hs]
        · cases hm : makes i.op with
          | true =>
            obtain ⟨r', hr'⟩ := hp.dest hm
            rw [hr'] at hs
            exact kind_w_len hk hs
          | false => exact kind_w_len' hk hm hs
    rw [unmask_set base i.mask H X hr b hX]

/-- Two operations that do not touch each other. -/
structure Sep (x y : AIns) : Prop where
  apart : apartA x y = true
  calm : conflict (kind x.op) (kind y.op) = false
  maskY : (kind y.op = .r ∨ kind y.op = .w) → ∀ r, x.dest = some r → r ∈ y.mask
  maskX : (kind x.op = .r ∨ kind x.op = .w) → ∀ r, y.dest = some r → r ∈ x.mask
  dests : ∀ r, x.dest = some r → y.dest ≠ some r

theorem Sep.symm {x y : AIns} (h : Sep x y) : Sep y x := by
  refine ⟨?_, ?_, h.maskX, h.maskY, fun r h1 h2 => h.dests r h2 h1⟩
  · have := h.apart
    unfold apartA at this ⊢
    cases hx : x.dst with
    | none => cases hy : y.dst <;> simp [hx, hy] at this ⊢; exact this
    | some d =>
      cases hy : y.dst with
      | none => simp [hx, hy] at this ⊢; exact this
      | some e =>
        simp [hx, hy] at this ⊢
        exact ⟨⟨this.2, fun h => this.1.2 h.symm⟩, this.1.1⟩
  · have := h.calm
    cases kx : kind x.op <;> cases ky : kind y.op <;> simp_all [conflict]

theorem looks_op {i : AIns} {t : Nat} (h : Operand.tmp t ∈ i.op.operands) : t ∈ i.looks := by
  unfold AIns.looks
  exact List.mem_append_left _ (List.mem_filterMap.2 ⟨.tmp t, h, rfl⟩)
theorem looks_guard {i : AIns} {t : Nat} {b : Bool} (h : i.guard = some (t, b)) : t ∈ i.looks := by
  unfold AIns.looks
  rw [h]
  exact List.mem_append_right _ (by simp)

theorem stepOp_congr {o : AOp} {dest : Option Nat} {ρ ρ' : Operand → Value} {H : Heap} (h : ∀ x ∈ o.operands, ρ x = ρ' x) : stepOp C lim dest o ρ H = stepOp C lim dest o ρ' H := by
  by_cases hc : ∃ mp f args, o = .call mp f args
  · obtain ⟨mp, f, args, rfl⟩ := hc
    simp only [AOp.operands] at h
    simp only [stepOp, h f (by simp), List.map_congr_left fun y hy => h y (List.mem_cons_of_mem _ hy)]
  · have hnc : ∀ mp f args, o ≠ .call mp f args := fun mp f args e => hc ⟨mp, f, args, e⟩
    rw [stepOp_plain hnc, stepOp_plain hnc]
    exact aOp_congr h

/-- A slot that is not looked at may hold anything. -/
theorem insVal_upd {b : Option Nat} {i : AIns} {fr : Nat → Value} {H : Heap} {d : Nat} {v : Value} (h : d ∉ i.looks) : insVal C N lim b i (upd fr d v) H = insVal C N lim b i fr H := by
  have hw : wantedA N (upd fr d v) i.guard = wantedA N fr i.guard := by
    cases hg : i.guard with
    | none => rfl
    | some g =>
      obtain ⟨t, b⟩ := g
      have : t ≠ d := fun e => h (e ▸ looks_guard hg)
      simp [wantedA, upd, this]
  have he : ∀ x ∈ i.op.operands, ev (upd fr d v) x = ev fr x := fun x hx => by
    cases x with
    | tmp t =>
      have : t ≠ d := fun e => h (e ▸ looks_op hx)
      simp [ev, upd, this]
    | _ => rfl
  unfold insVal
  rw [hw]
  cases b with
  | none => simp only [stepOp_congr (C := C) (lim := lim) he]
  | some b => simp only [stepOp_congr (C := C) (lim := lim) he]

theorem insVal_put {b : Option Nat} {i : AIns} {fr fr' : Nat → Value} {H : Heap} {dst : Option Nat} {v : Value} (hp : putD N fr dst v = some fr') (h : ∀ d, dst = some d → d ∉ i.looks) : insVal C N lim b i fr' H = insVal C N lim b i fr H := by
  cases dst with
  | none => cases hp; rfl
  | some d =>
    simp only [putD] at hp
    split at hp
    · cases hp; exact insVal_upd (h d rfl)
    · cases hp

theorem put_comm {fr fr1 fr2 : Nat → Value} {x y : Option Nat} {v u : Value} (h1 : putD N fr x v = some fr1) (h2 : putD N fr1 y u = some fr2) (hne : ∀ d, x = some d → y ≠ some d) :
    ∃ fr1', putD N fr y u = some fr1' ∧ putD N fr1' x v = some fr2 := by
  cases x with
  | none => cases h1; exact ⟨fr2, h2, rfl⟩
  | some d =>
    cases y with
    | none => cases h2; exact ⟨fr, rfl, h1⟩
    | some e =>
      simp only [putD] at h1 h2
      split at h1
      case isFalse => cases h1
      rename_i hd
      split at h2
      case isFalse => cases h2
      rename_i he
      cases h1; cases h2
      refine ⟨upd fr e u, by simp [putD, he], ?_⟩
      have hde : d ≠ e := fun h => hne d rfl (by rw [h])
      simp only [putD, hd, if_true, Option.some.injEq]
      funext t
      simp only [upd]
      by_cases h1 : t = d
      · subst h1; simp [hde]
      · simp [h1]

/-- The heaps of two operations that change places. -/
theorem vals_swap (hC : CallOk0 C) {x y : AIns} (hx : Planned x) (hy : Planned y) (hs : Sep x y) {fr : Nat → Value} {H H1 H2 : Heap} {v u : Value} (h1 : insVal C N lim (some base) x fr H = some (v, H1)) (h2 : insVal C N lim (some base) y fr H1 = some (u, H2)) :
    ∃ H1', insVal C N lim (some base) y fr H = some (u, H1') ∧ insVal C N lim (some base) x fr H1' = some (v, H2) := by
  rw [insVal_some] at h1 h2
  cases gx : wantedA N fr x.guard with
  | none => rw [gx] at h1; cases h1
  | some wx =>
  cases gy : wantedA N fr y.guard with
  | none => rw [gy] at h2; cases h2
  | some wy =>
  rw [gx] at h1
  rw [gy] at h2
  cases wx with
  | false => cases h1; exact ⟨H2, by rw [insVal_some, gy]; exact h2, by rw [insVal_some, gx]⟩
  | true =>
  cases wy with
  | false => cases h2; exact ⟨H, by rw [insVal_some, gy], by rw [insVal_some, gx]; exact h1⟩
  | true =>
  simp only at h1 h2
  suffices hh : ∃ H1', bodyVal C lim base y (ev fr) H = some (u, H1') ∧ bodyVal C lim base x (ev fr) H1' = some (v, H2) by
    obtain ⟨H1', e1, e2⟩ := hh
    exact ⟨H1', by rw [insVal_some, gy]; exact e1, by rw [insVal_some, gx]; exact e2⟩
  have pcase : ∀ {i : AIns} (hp : Planned i) (hk : kind i.op = .p) {A B : Heap} {z : Value}, bodyVal C lim base i (ev fr) A = some (z, B) → B = A ∧ ∀ D, bodyVal C lim base i (ev fr) D = some (z, D) := by
    intro i hp hk A B z h
    rw [body_p hp hk] at h
    cases hg : (aOp lim (i.dest.map (base + ·)) i.op (ev fr) []).map (·.1) with
    | none => rw [hg] at h; cases h
    | some c => rw [hg] at h; cases h; exact ⟨rfl, fun D => by rw [body_p hp hk, hg]; rfl⟩
  by_cases kxp : kind x.op = .p
  · obtain ⟨rfl, hall⟩ := pcase hx kxp h1
    exact ⟨H2, h2, hall H2⟩
  by_cases kyp : kind y.op = .p
  · obtain ⟨rfl, hall⟩ := pcase hy kyp h2
    exact ⟨H, hall H, h1⟩
  have hcalm := hs.calm
  by_cases kxa : kind x.op = .a
  · obtain ⟨r, hr⟩ := hx.dest (makes_a kxa)
    obtain ⟨b, rfl, hall⟩ := body_a hx kxa hr h1
    by_cases kya : kind y.op = .a
    · obtain ⟨r', hr'⟩ := hy.dest (makes_a kya)
      obtain ⟨b', rfl, hall'⟩ := body_a hy kya hr' h2
      have hne : r ≠ r' := fun e => hs.dests r hr (by rw [hr', e])
      exact ⟨_, hall' H, by rw [hall, List.set_comm _ _ (by omega)]⟩
    · have ky : kind y.op = .r ∨ kind y.op = .w := by
        cases hk : kind y.op <;> simp_all [conflict]
      rw [body_masked hC hy ky (hs.maskY ky r hr)] at h2
      cases hb : bodyVal C lim base y (ev fr) H with
      | none => rw [hb] at h2; cases h2
      | some p =>
        obtain ⟨u', H1'⟩ := p
        rw [hb] at h2
        cases h2
        exact ⟨H1', rfl, hall H1'⟩
  by_cases kya : kind y.op = .a
  · obtain ⟨r, hr⟩ := hy.dest (makes_a kya)
    obtain ⟨b, rfl, hall⟩ := body_a hy kya hr h2
    have kx : kind x.op = .r ∨ kind x.op = .w := by
      cases hk : kind x.op <;> simp_all [conflict]
    exact ⟨_, hall H, by rw [body_masked hC hx kx (hs.maskX kx r hr), h1]; rfl⟩
  have kr : kind x.op = .r ∧ kind y.op = .r := by
    cases hk : kind x.op <;> cases hk' : kind y.op <;> simp_all [conflict]
  have e1 := body_r hC kr.1 h1
  subst e1
  have e2 := body_r hC kr.2 h2
  subst e2
  exact ⟨_, h2, h1⟩

theorem ins_swap (hC : CallOk0 C) {x y : AIns} (hx : Planned x) (hy : Planned y) (hs : Sep x y) {fr fr1 fr2 : Nat → Value} {H H1 H2 : Heap} (h1 : insOp C N lim (some base) x fr H = some (fr1, H1)) (h2 : insOp C N lim (some base) y fr1 H1 = some (fr2, H2)) :
    ∃ fr1' H1', insOp C N lim (some base) y fr H = some (fr1', H1') ∧ insOp C N lim (some base) x fr1' H1' = some (fr2, H2) := by
  have hap := hs.apart
  unfold apartA at hap
  have a1 : ∀ d, x.dst = some d → d ∉ y.looks := fun d e => by rw [e] at hap; simp at hap; exact hap.1.1
  have a2 : ∀ d, x.dst = some d → y.dst ≠ some d := fun d e => by rw [e] at hap; simp at hap; exact hap.1.2
  have a3 : ∀ d, y.dst = some d → d ∉ x.looks := fun d e => by rw [e] at hap; simp at hap; exact hap.2
  unfold insOp at h1 h2
  cases hv : insVal C N lim (some base) x fr H with
  | none => rw [hv] at h1; cases h1
  | some p =>
  obtain ⟨v, K1⟩ := p
  rw [hv] at h1
  simp only [Option.map_eq_some_iff, Prod.mk.injEq] at h1
  obtain ⟨f1, hf1, rfl, rfl⟩ := h1
  rw [insVal_put hf1 a1] at h2
  cases hu : insVal C N lim (some base) y fr K1 with
  | none => rw [hu] at h2; cases h2
  | some p =>
  obtain ⟨u, K2⟩ := p
  rw [hu] at h2
  simp only [Option.map_eq_some_iff, Prod.mk.injEq] at h2
  obtain ⟨f2, hf2, rfl, rfl⟩ := h2
  obtain ⟨K1', e1, e2⟩ := vals_swap hC hx hy hs hv hu
  obtain ⟨f1', g1, g2⟩ := put_comm hf1 hf2 a2
  refine ⟨f1', K1', by simp only [insOp, e1, g1]; rfl, ?_⟩
  unfold insOp
  rw [insVal_put g1 a3, e2]
  simp [g2]

/-- A list of operations, one behind the other. -/
def dOps (C : CallF) (N lim : Nat) (base : Option Nat) : List AIns → (Nat → Value) → Heap → Option ((Nat → Value) × Heap)
  | [], fr, H => some (fr, H)
  | i :: l, fr, H => match insOp C N lim base i fr H with
    | some (fr', H') => dOps C N lim base l fr' H'
    | none => none

theorem dOps_cons {b : Option Nat} {i : AIns} {l : List AIns} {fr : Nat → Value} {H : Heap} {r} (h : dOps C N lim b (i :: l) fr H = some r) : ∃ fr' H', insOp C N lim b i fr H = some (fr', H') ∧ dOps C N lim b l fr' H' = some r := by
  simp only [dOps] at h
  split at h
  · rename_i fr' H' h1; exact ⟨fr', H', h1, h⟩
  · cases h

/-- An operation that none of those ahead of it touches may come first. -/
theorem bubble (hC : CallOk0 C) {x : AIns} (hx : Planned x) (B : List AIns) : ∀ (A : List AIns) (fr : Nat → Value) (H : Heap) (r), (∀ a ∈ A, Planned a ∧ Sep a x) → dOps C N lim (some base) (A ++ x :: B) fr H = some r →
    dOps C N lim (some base) (x :: (A ++ B)) fr H = some r
  | [], fr, H, r, _, h => h
  | a :: A, fr, H, r, hA, h => by
    obtain ⟨fr1, H1, h1, h2⟩ := dOps_cons h
    have ih := bubble hC hx B A fr1 H1 r (fun b hb => hA b (List.mem_cons_of_mem _ hb)) h2
    obtain ⟨fr2, H2, h3, h4⟩ := dOps_cons ih
    obtain ⟨pa, sa⟩ := hA a List.mem_cons_self
    obtain ⟨fr1', H1', e1, e2⟩ := ins_swap hC pa hx sa h1 h3
    simp only [List.cons_append, dOps, e1, e2]
    exact h4
end
end Go.AM
