/-
  The abstract machine, part 19: regions.
-/
import Derived.Test.YtlmoijifgbkapaaAm18
set_option linter.unusedVariables false
set_option linter.unusedSimpArgs false
namespace Go.AM

section
variable {P : Program} {pureF : FuncId → Bool} {C : CallF} {W : Nat → Prop} {lim : Nat} {σ : Sig} {H H' : Heap} {w : World} {dest : Option Nat}

theorem Inv.mask (base : Nat) : ∀ (l : List Nat) {H : Heap}, Inv W lim σ H w → Inv W lim σ (maskH base l H) w
  | [], _, h => h
  | i :: l, H, h => by
    simp only [maskH, List.foldl_cons]
    exact Inv.mask base l (h.killAny (base + i))

theorem masked_next (hinv : Inv W lim σ H w) (base : Nat) (l : List Nat) (hown : ∀ i ∈ l, ∀ b, H[base + i]? = some b → alive b = true → owned b = true) (hlim : lim ≤ base) :
    ∃ Wm : Nat → Prop, Inv Wm lim σ (maskH base l H) w ∧ ∀ v Hm' v' w' σ', Next' Wm lim σ dest (maskH base l H) w v Hm' v' w' σ' → Next' W lim σ dest H w v (unmaskH base l H Hm') v' w' σ' := by
  refine ⟨fun b => W b ∧ ∀ i ∈ l, ∀ bl L, H[base + i]? = some bl → alive bl = true → σ (base + i) = some L → L.blk ≠ b, ?_, ?_⟩
  · have hm := hinv.mask base l
    have get : ∀ (j : Nat) b, (maskH base l H)[j]? = some b → alive b = true → H[j]? = some b ∧ ∀ i ∈ l, base + i ≠ j := fun j b hb ha => by
      by_cases hj : ∃ i ∈ l, base + i = j
      · have hlt : j < H.length := by
          have := (List.getElem?_eq_some_iff.1 hb).1
          rw [mask_length] at this; exact this
        rw [mask_in base l H hj hlt] at hb
        cases hb; simp [alive] at ha
      · have hj' : ∀ i ∈ l, base + i ≠ j := fun i hi e => hj ⟨i, hi, e⟩
        rw [mask_out base l H hj'] at hb
        exact ⟨hb, hj'⟩
    refine ⟨hm.blk, hm.inj, fun i b L hb ho hl hL => ⟨hm.wr i b L hb ho hl hL, fun k hk bl Lk hbl hal hLk e => ?_⟩, fun b hb => ⟨hm.fresh b hb, fun k hk bl Lk hbl hal hLk e => ?_⟩, hm.dom⟩
    · obtain ⟨h1, h2⟩ := get i b hb (alive_of_owned ho)
      exact hinv.inj i (base + k) b bl L Lk h1 hbl (fun e => h2 k hk e.symm) ho hal hL hLk e.symm
    · obtain ⟨L', h1, h2⟩ := hinv.blk (base + k) bl hbl hal
      rw [hLk] at h1; cases h1
      have := h2.lt hal
      omega
  · rintro v Hm' v' w' σ' ⟨q1, q2, q3, q4, q5, q6, q7⟩
    rw [mask_length] at q5 q6
    have hstp : Stp W w w' := ⟨q3.os, q3.tape, q3.output, q3.size, fun b hb => q3.block b fun h => hb h.1⟩
    have same : ∀ i L, σ i = some L → σ' i = some L := q4
    -- the places of the result
    have get : ∀ (j : Nat) b, (unmaskH base l H Hm')[j]? = some b → alive b = true → (H[j]? = some b ∧ ∃ i ∈ l, base + i = j) ∨ (Hm'[j]? = some b ∧ ∀ i ∈ l, base + i ≠ j) := fun j b hb ha => by
      by_cases hj : ∃ i ∈ l, base + i = j
      · have hlt : j < Hm'.length := by
          have := (List.getElem?_eq_some_iff.1 hb).1
          rw [unmask_length] at this; exact this
        rw [unmask_in base H l Hm' hj hlt] at hb
        simp only [Option.some.injEq] at hb
        exact .inl ⟨hget_some hb ha, hj⟩
      · have hj' : ∀ i ∈ l, base + i ≠ j := fun i hi e => hj ⟨i, hi, e⟩
        rw [unmask_out base H l Hm' hj'] at hb
        exact .inr ⟨hb, hj'⟩
    have old : ∀ (j : Nat) b, Hm'[j]? = some b → alive b = true → (∀ i ∈ l, base + i ≠ j) → H[j]? = some b ∨ (owned b = true ∧ lim ≤ j) := fun j b hb ha hj => by
      rcases q7 j b hb ha with h | h
      · rw [mask_out base l H hj] at h; exact .inl h
      · exact .inr h
    have hs' : ∀ (j : Nat) b Lj, H[j]? = some b → alive b = true → σ' j = some Lj → σ j = some Lj := fun j b Lj hb ha hj => by
      obtain ⟨L, h1, _⟩ := hinv.blk j b hb ha
      have := same _ _ h1
      rw [this] at hj; cases hj; exact h1
    refine ⟨q1, ⟨fun j b hb ha => ?_, fun i j bi bj Li Lj hbi hbj hne hoi haj hi hj => ?_, fun i b L hb ho hli hL => ?_, fun b hb => (q2.fresh b hb).1, fun j hj => q2.dom j (by rw [unmask_length] at hj; exact hj)⟩, hstp, q4, q5, by rw [unmask_length]; exact q6, fun j b hb ha => ?_⟩
    · rcases get j b hb ha with ⟨h1, h2⟩ | ⟨h1, h2⟩
      · obtain ⟨L, g1, g2⟩ := hinv.blk j b h1 ha
        refine ⟨L, same _ _ g1, g2.mono q4 fun _ => q3.block _ fun hW => ?_⟩
        obtain ⟨k, hk, rfl⟩ := h2
        exact hW.2 k hk b L h1 ha g1 rfl
      · exact q2.blk j b h1 ha
    · rcases get i bi hbi (alive_of_owned hoi) with ⟨h1, h2⟩ | ⟨h1, h2⟩
      · have hi0 := hs' i bi Li h1 (alive_of_owned hoi) hi
        rcases get j bj hbj haj with ⟨g1, g2⟩ | ⟨g1, g2⟩
        · exact hinv.inj i j bi bj Li Lj h1 g1 hne hoi haj hi0 (hs' j bj Lj g1 haj hj)
        · rcases old j bj g1 haj g2 with h | h
          · exact hinv.inj i j bi bj Li Lj h1 h hne hoi haj hi0 (hs' j bj Lj h haj hj)
          · have := q2.wr j bj Lj g1 h.1 h.2 hj
            obtain ⟨k, hk, rfl⟩ := h2
            exact this.2 k hk bi Li h1 (alive_of_owned hoi) hi0
      · rcases get j bj hbj haj with ⟨g1, g2⟩ | ⟨g1, g2⟩
        · have hj0 := hs' j bj Lj g1 haj hj
          rcases old i bi h1 (alive_of_owned hoi) h2 with h | h
          · exact hinv.inj i j bi bj Li Lj h g1 hne hoi haj (hs' i bi Li h (alive_of_owned hoi) hi) hj0
          · have := q2.wr i bi Li h1 h.1 h.2 hi
            obtain ⟨k, hk, rfl⟩ := g2
            exact fun e => this.2 k hk bj Lj g1 haj hj0 e.symm
        · exact q2.inj i j bi bj Li Lj h1 g1 hne hoi haj hi hj
    · rcases get i b hb (alive_of_owned ho) with ⟨h1, h2⟩ | ⟨h1, h2⟩
      · exact hinv.wr i b L h1 ho hli (hs' i b L h1 (alive_of_owned ho) hL)
      · exact (q2.wr i b L h1 ho hli hL).1
    · rcases get j b hb ha with ⟨h1, h2⟩ | ⟨h1, h2⟩
      · exact .inl h1
      · exact old j b h1 ha h2

/-- The frame. -/
structure FrRel (σ : Sig) (N : Nat) (fr : Nat → Value) (a : Act) : Prop where
  size : N ≤ a.tmps.size
  defers : a.defers = []
  val : ∀ t, VRel σ (fr t) (a.tmps.getD t undef)

theorem FrRel.mono {σ τ : Sig} {N : Nat} {fr : Nat → Value} {a : Act} (h : FrRel σ N fr a) (hle : Sig.le σ τ) : FrRel τ N fr a := ⟨h.size, h.defers, fun t => (h.val t).mono hle⟩
theorem FrRel.ev {σ : Sig} {N : Nat} {fr : Nat → Value} {a : Act} (h : FrRel σ N fr a) {x : Operand} (hx : okOperand x = true) : VRel σ (ev fr x) (a.eval x) := by
  cases x with
  | tmp t => exact h.val t
  | const v =>
    have hv : atom v = true := by simpa [okOperand] using hx
    exact .atom hv
  | func f => exact .atom rfl
  | global g => simp [okOperand] at hx
theorem FrRel.put {σ : Sig} {N : Nat} {fr fr' : Nat → Value} {a : Act} (h : FrRel σ N fr a) {dst : Option Nat} {v v' : Value} (hv : VRel σ v v') (hp : putD N fr dst v = some fr') : FrRel σ N fr' (a.put dst v') := by
  cases dst with
  | none => cases hp; exact h
  | some d =>
    simp only [putD] at hp
    split at hp
    case isFalse => cases hp
    rename_i hd
    cases hp
    refine ⟨by simpa [Act.put] using h.size, h.defers, fun t => ?_⟩
    simp only [Act.put, upd, Array.getD_eq_getD_getElem?]
    by_cases e : t = d
    · subst e
      have : t < a.tmps.size := by have := h.size; omega
      rw [if_pos rfl, Array.getElem?_setIfInBounds_self_of_lt this]
      exact hv
    · rw [if_neg e, Array.getElem?_setIfInBounds_ne (fun h => e h.symm), ← Array.getD_eq_getD_getElem?]
      exact h.val t
theorem FrRel.wanted {σ : Sig} {N : Nat} {fr : Nat → Value} {a : Act} (h : FrRel σ N fr a) {ops : Array Oper} {o : Oper} {g : Option (Nat × Bool)} (hg : trGuard ops o.guard = some g) {b : Bool} (hw : wantedA N fr g = some b) :
    Region.wanted o (yielded ops a.tmps) = b := by
  unfold trGuard at hg
  cases ho : o.guard with
  | none =>
    rw [ho] at hg; simp at hg; subst hg
    simp [wantedA] at hw; subst hw
    simp [Region.wanted, ho]
  | some p =>
    obtain ⟨j, c⟩ := p
    rw [ho] at hg
    simp only at hg
    split at hg
    case h_2 => cases hg
    rename_i t ht
    simp only [Option.some.injEq] at hg; subst hg
    simp only [wantedA] at hw
    split at hw
    case isFalse => cases hw
    rename_i htN
    have hsz : t < a.tmps.size := Nat.lt_of_lt_of_le htN h.size
    have hval := h.val t
    rw [Array.getD_eq_getD_getElem?, Array.getElem?_eq_getElem hsz] at hval
    simp only [Option.getD_some] at hval
    have hy : yielded ops a.tmps j = match a.tmps[t] with | .bool b => some b | _ => none := by
      unfold yielded
      rw [ht]
      simp only [Option.bind_some, Array.getElem?_eq_getElem hsz]
      cases a.tmps[t] <;> rfl
    simp only [Region.wanted, ho, hy]
    split at hw
    · rename_i d hd
      rw [hd] at hval
      rw [hval.bool_left]
      simp only [Option.some.injEq] at hw
      rw [← hw]
      simp
    · rename_i hnb
      simp only [Option.some.injEq] at hw
      rw [← hw]
      have : ∀ d, a.tmps[t] ≠ .bool d := fun d e => by
        rw [e] at hval
        generalize fr t = x at hval hnb
        cases hval
        exact hnb d rfl
      cases hx : a.tmps[t] <;> first | (exact absurd hx (this _)) | simp

/-- All that is known between two operations. -/
structure State (W : Nat → Prop) (lim : Nat) (σ : Sig) (N : Nat) (fr : Nat → Value) (H : Heap) (a : Act) (w : World) : Prop where
  fr : FrRel σ N fr a
  inv : Inv W lim σ H w
  lim : lim ≤ H.length

theorem ins_wp (hC : CallOk P C) {draw : Bool} {ops : Array Oper} {j : Nat} {o : Oper} (hj : ops[j]? = some o) {i : AIns} (htr : trIns P pureF draw ops o = some i) {N : Nat} {fr fr' : Nat → Value} {a : Act} (hs : State W lim σ N fr H a w)
    (hx : insOp C N lim none i fr H = some (fr', H')) {K : Act → World → Prop} {Q : Exit → Act → World → Prop} (hK : ∀ σ' a' w', State W lim σ' N fr' H' a' w' → Stp W w w' → Sig.le σ σ' → Grow lim H H' → (∀ j, σ' j ≠ σ j → H.length ≤ j) → H.length ≤ H'.length → K a' w') : wpOp P ops Q j K a w := by
  obtain ⟨ao, hao, htr⟩ := opt_bind htr
  obtain ⟨g, hg, htr⟩ := opt_bind htr
  cases htr
  unfold wpOp
  rw [hj]
  simp only
  unfold insOp insVal at hx
  simp only at hx
  cases hw : wantedA N fr g with
  | none => rw [hw] at hx; cases hx
  | some b =>
  rw [hs.fr.wanted hg hw]
  rw [hw] at hx
  cases b with
  | false =>
    simp only [Bool.false_eq_true, if_false]
    simp only [Option.map_eq_some_iff, Prod.mk.injEq] at hx
    obtain ⟨f, hf, rfl, rfl⟩ := hx
    exact hK σ _ w ⟨hs.fr.put (.atom rfl) hf, hs.inv, hs.lim⟩ (Stp.refl _ _) (Sig.le_refl _) (Grow.refl _ _) (fun j hj => absurd rfl hj) (Nat.le_refl _)
  | true =>
    simp only [if_true]
    left
    simp only at hx
    split at hx
    case h_2 => cases hx
    rename_i v H1 hv
    simp only [Option.map_eq_some_iff, Prod.mk.injEq] at hx
    obtain ⟨f, hf, rfl, rfl⟩ := hx
    refine stepOp_wp hC hao hs.inv hs.lim (fun d e => by cases e) (fun d e => by cases e) (fun x hx => hs.fr.ev hx) hv fun v' w' σ' hn => ?_
    obtain ⟨q1, q2, q3, q4, q5, q6, q7⟩ := hn
    exact hK σ' _ w' ⟨(hs.fr.mono q4).put q1 hf, q2, by have := hs.lim; omega⟩ q3 q4 q7 (fun j hj => (q5 j hj).resolve_left (by simp)) q6

/-- What is known of the places that are kept for the new blocks of a region. -/
structure Kept (σ : Sig) (H : Heap) (base n : Nat) (todo : List Nat) : Prop where
  len : base + n ≤ H.length
  own : ∀ r, r < n → ∀ b, H[base + r]? = some b → alive b = true → owned b = true
  free : ∀ r ∈ todo, σ (base + r) = none
  lt : ∀ r ∈ todo, r < n

theorem dins_wp (hC : CallOk P C) {ops : Array Oper} {j : Nat} {o : Oper} (hj : ops[j]? = some o) {i0 : AIns} (htr : trIns P pureF true ops o = some i0) {i : AIns} (hi : i.dst = i0.dst ∧ i.guard = i0.guard ∧ i.op = i0.op)
    {N base n : Nat} {fr fr' : Nat → Value} {a : Act} (hs : State W lim σ N fr H a w) (hlb : lim ≤ base) {todo : List Nat} (hk : Kept σ H base n todo) (hdst : ∀ r, i.dest = some r → r ∈ todo ∧ r < n) (hmask : ∀ r ∈ i.mask, r < n)
    (hx : insOp C N lim (some base) i fr H = some (fr', H')) {K : Act → World → Prop} {Q : Exit → Act → World → Prop}
    (hK : ∀ σ' a' w', State W lim σ' N fr' H' a' w' → Stp W w w' → Sig.le σ σ' → Grow lim H H' → Kept σ' H' base n (todo.filter fun r => i.dest ≠ some r) → (∀ j, σ' j ≠ σ j → (∃ r, i.dest = some r ∧ j = base + r) ∨ H.length ≤ j) → H.length ≤ H'.length → K a' w') : wpOp P ops Q j K a w := by
  obtain ⟨ao, hao, htr⟩ := opt_bind htr
  obtain ⟨g, hg, htr⟩ := opt_bind htr
  cases htr
  obtain ⟨e1, e2, e3⟩ := hi
  simp only at e1 e2 e3
  unfold wpOp
  rw [hj]
  simp only
  unfold insOp at hx
  rw [insVal_some, e2, e1] at hx
  cases hw : wantedA N fr g with
  | none => rw [hw] at hx; cases hx
  | some b =>
  rw [hs.fr.wanted hg hw]
  rw [hw] at hx
  cases b with
  | false =>
    simp only [Bool.false_eq_true, if_false]
    simp only [Option.map_eq_some_iff, Prod.mk.injEq] at hx
    obtain ⟨f, hf, rfl, rfl⟩ := hx
    exact hK σ _ w ⟨hs.fr.put (.atom rfl) hf, hs.inv, hs.lim⟩ (Stp.refl _ _) (Sig.le_refl _) (Grow.refl _ _) ⟨hk.len, hk.own, fun r hr => hk.free r (List.mem_filter.1 hr).1, fun r hr => hk.lt r (List.mem_filter.1 hr).1⟩ (fun j hj => absurd rfl hj) (Nat.le_refl _)
  | true =>
    simp only [if_true]
    left
    simp only [bodyVal] at hx
    split at hx
    case h_2 => cases hx
    rename_i v H1 hv
    split at hv
    case h_2 => cases hv
    rename_i v1 Hm hst
    simp only [Option.some.injEq, Prod.mk.injEq] at hv
    obtain ⟨rfl, rfl⟩ := hv
    simp only [Option.map_eq_some_iff, Prod.mk.injEq] at hx
    obtain ⟨f, hf, rfl, rfl⟩ := hx
    rw [e3] at hst
    have hd : ∀ d, i.dest.map (base + ·) = some d → ∃ r, i.dest = some r ∧ d = base + r ∧ r ∈ todo ∧ r < n := fun d e => by
      simp only [Option.map_eq_some_iff] at e
      obtain ⟨r, hr, rfl⟩ := e
      exact ⟨r, hr, rfl, hdst r hr⟩
    obtain ⟨Wm, hm1, hm2⟩ := masked_next (dest := i.dest.map (base + ·)) hs.inv base i.mask (fun r hr b hb ha => hk.own r (hmask r hr) b hb ha) hlb
    refine stepOp_wp hC hao hm1 (by rw [mask_length]; exact hs.lim) (fun d e => by obtain ⟨r, _, rfl, _⟩ := hd d e; omega)
      (fun d e => by
        obtain ⟨r, _, rfl, h1, h2⟩ := hd d e
        rw [mask_length]
        exact ⟨by have := hk.len; omega, hk.free r h1⟩) (fun x hx => hs.fr.ev hx) hst fun v' w' σ' hn => ?_
    obtain ⟨q1, q2, q3, q4, q5, q6, q7⟩ := hm2 _ _ _ _ _ hn
    have hch : ∀ j, σ' j ≠ σ j → (∃ r, i.dest = some r ∧ j = base + r) ∨ H.length ≤ j := fun j hj => by
      rcases q5 j hj with h | h
      · obtain ⟨r, h1, h2, _⟩ := hd j h
        exact .inl ⟨r, h1, h2⟩
      · exact .inr h
    refine hK σ' _ w' ⟨(hs.fr.mono q4).put q1 hf, q2, by have := hs.lim; omega⟩ q3 q4 q7 ⟨by have := hk.len; omega, fun r hr b hb ha => ?_, fun r hr => ?_, fun r hr => hk.lt r (List.mem_filter.1 hr).1⟩ hch q6
    · rcases q7 _ b hb ha with h | h
      · exact hk.own r hr b h ha
      · exact h.1
    · obtain ⟨h1, h2⟩ := List.mem_filter.1 hr
      have hne : i.dest ≠ some r := by simpa using h2
      apply Decidable.byContradiction
      intro hc
      have hch2 := hch (base + r) (fun e => hc (by rw [e]; exact hk.free r h1))
      rcases hch2 with ⟨r', h3, h4⟩ | h3
      · have : r' = r := by omega
        subst this; exact hne h3
      · have h1' := hk.lt r h1; have h2' := hk.len; omega
end
end Go.AM
