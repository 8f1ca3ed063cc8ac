/-
  The abstract machine, part 7: the operations that leave the heap alone.
-/
import Derived.Test.YtlmoijifgbkapaaAm6
set_option linter.unusedVariables false
set_option linter.unusedSimpArgs false
namespace Go.AM
open Go.MapKept

section
variable {P : Program} {W : Nat → Prop} {lim : Nat} {σ : Sig} {H H' : Heap} {w : World} {dest : Option Nat} {ρ ρ' : Operand → Value} {v : Value}

theorem run_value (P : Program) (w : World) (s : Sem Value) {x : Value} {w' : World} (h : s.run P w = .ok x w') : (do pure (Next.value (← s)) : Sem Next).run P w = .ok (.value x) w' := by
  simp [h]
theorem run_unit (P : Program) (w : World) (s : Sem Unit) {w' : World} (h : s.run P w = .ok () w') : (do s; pure Next.skip : Sem Next).run P w = .ok .skip w' := by
  simp [h]

theorem run_eqGuard_int (op : BinOp) (t : TypeId) (x y : Operand) (k k' : IntKind) (a b : Int) : (eqGuard op t x y (.int k a) (.int k' b)).run P w = .ok () w := by
  cases op <;> simp [eqGuard]
theorem run_eqGuard_string (op : BinOp) (t : TypeId) (x y : Operand) (a b : ByteArray) : (eqGuard op t x y (.string a) (.string b)).run P w = .ok () w := by
  cases op <;> simp [eqGuard]

theorem aBin_sound (op : BinOp) (t : TypeId) (x y : Operand) {a b r : Value} (h : aBin op a b = some r) : (do eqGuard op t x y a b; binOp op t a b : Sem Value).run P w = .ok r w := by
  unfold aBin at h
  split at h
  · rename_i k a k' b
    simp only [Sem.run_bind, run_eqGuard_int, Result.andThen_ok]
    split at h
    · split at h
      · cases h
      · rename_i hb
        cases h
        simp [binOp, Op.shift, hb]
    · split at h
      · cases h
      · rename_i hb
        cases h
        simp [binOp, Op.shift, hb]
    · rename_i hns1 hns2
      split at h
      case isFalse => cases h
      rename_i hk
      subst hk
      cases op <;> simp at h <;> first
        | (exact absurd rfl hns1) | (exact absurd rfl hns2)
        | (subst h; simp [binOp, Op.intArith, Op.intBits, Op.intCmp]; done)
        | (obtain ⟨hb, rfl⟩ := h; simp [binOp, Op.intDiv, hb]; done)
  · rename_i a b
    simp only [Sem.run_bind, run_eqGuard_string, Result.andThen_ok]
    cases op <;> simp at h <;> first
      | (subst h; simp [binOp, Op.stringOp]; done)
      | (obtain ⟨hb, rfl⟩ := h
         simp [binOp, Op.stringOp]
         exact hb)
  · cases h

theorem aUn_sound (op : UnOp) {a r : Value} (h : aUn op a = some r) : (Op.unary op a).run P w = .ok r w := by
  unfold aUn at h
  split at h
  · cases h; simp [Op.unary]
  · cases h; simp [Op.unary, Op.intArith]
  · cases h; simp [Op.unary, Op.intBits]
  · cases h


theorem run_eqGuard_other (op : BinOp) (t : TypeId) (x y : Operand) {a b : Value} (h1 : a ≠ .nilIface) (h2 : ∀ xs, a ≠ .agg xs) :
    (eqGuard op t x y a b).run P w = .ok () w := by
  unfold eqGuard
  cases a <;> first | (exact absurd rfl h1) | (exact absurd rfl (h2 _)) | (cases op <;> simp)

theorem run_isAgg {t : TypeId} {b : Bool} (h : isAggT P t = some b) : (isAgg t).run P w = .ok b w := by
  unfold isAggT at h
  cases hd : P.underlying t with
  | none => simp [hd] at h
  | some d =>
    rw [hd] at h
    cases d <;> simp at h <;> subst h <;> simp [isAgg, run_underlying hd]
theorem run_size {t : TypeId} {n : Nat} (h : sizeOfT P t = some n) : (sizeOf t).run P w = .ok n w := by
  unfold sizeOfT at h
  cases hi : P.info? t with
  | none => simp [hi] at h
  | some i => rw [hi] at h; simp at h; subst h; simp [sizeOf, typeInfo, hi]
theorem run_part1 {t : TypeId} {cs : Array Value} {off : Nat} {x : Value} (h : isAggT P t = some false) (hx : cs[off]? = some x) : (part t cs off).run P w = .ok x w := by
  simp [part, run_isAgg h, hx]
theorem run_partN {t : TypeId} {cs : Array Value} {off n : Nat} (h : isAggT P t = some true) (hn : sizeOfT P t = some n) : (part t cs off).run P w = .ok (.agg (cs.extract off (off + n))) w := by
  simp [part, run_isAgg h, run_size hn]
theorem extract_toList (cs : Array Value) (off n : Nat) : (cs.extract off (off + n)).toList = (cs.toList.drop off).take n := by
  rw [Array.toList_extract]
  simp [List.extract]

/-- What the model's loads come to. -/
theorem load1_sound (h : Inv W lim σ H w) {t : TypeId} (ht : isAggT P t = some false) {p : Addr} {L : Loc} (hL : σ p.block = some L) {v : Value} (hv : loadCell H p = some v) :
    ∃ v', (loadVar t ⟨L.blk, L.base + p.off, none⟩).run P w = .ok v' w ∧ VRel σ v v' := by
  obtain ⟨v', h1, h2, h3⟩ := h.loadCell hL hv
  exact ⟨v', by simp [loadVar, run_isAgg ht, h1], h2⟩
theorem loadN_run (h : Inv W lim σ H w) {p : Addr} {L : Loc} (hL : σ p.block = some L) {n : Nat} {l : List Value} (hv : AM.loadCells H p n = some l) :
    ∃ l', (Go.loadCells ⟨L.blk, L.base + p.off, none⟩ n).run P w = .ok l'.toArray w ∧ LRel σ l l' ∧ l'.length = n ∧ ∀ y ∈ l', y.oneCell' = true := by
  obtain ⟨l', h1, h2, h3, h4⟩ := h.loadCells hL hv
  have := run_loadCells_list (P := P) w ⟨L.blk, L.base + p.off, none⟩ l' fun j v hj => by rw [Addr.add_mid]; exact h4 j v hj
  rw [h2] at this
  exact ⟨l', this, h1, h2, h3⟩
theorem loadN_sound (h : Inv W lim σ H w) {t : TypeId} (ht : isAggT P t = some true) {n : Nat} (hn : sizeOfT P t = some n) {p : Addr} {L : Loc} (hL : σ p.block = some L) {l : List Value} (hv : AM.loadCells H p n = some l) :
    ∃ v', (loadVar t ⟨L.blk, L.base + p.off, none⟩).run P w = .ok v' w ∧ VRel σ (.agg l.toArray) v' := by
  obtain ⟨l', h1, h2, h3, h4⟩ := loadN_run (P := P) h hL hv
  exact ⟨.agg l'.toArray, by simp [loadVar, run_isAgg ht, run_size hn, h1], VRel.agg_iff.2 ⟨by simpa using h2, by simpa using h4⟩⟩

/-- The bounds of a slice expression. -/
theorem bound_sound {x x' : Value} {m n : Nat} (h : bound x m = some n) (hr : VRel σ x x') (code : BoundsCode) : (Instr.sliceBound x' m code).run P w = .ok n w := by
  unfold bound at h
  split at h
  · rename_i k i
    split at h
    · rename_i hi
      cases h
      rw [hr.int_left]
      simp [Instr.sliceBound, asIntOf, hi]
    · cases h
  · cases h

theorem bound_le {v : Value} {a n : Nat} (hb : bound v a = some n) : n ≤ a := by
  unfold bound at hb
  split at hb
  · split at hb
    · cases hb; omega
    · cases hb
  · cases hb
theorem bound_wide {v : Value} {a b n : Nat} (hab : a ≤ b) (hb : bound v a = some n) : bound v b = some n := by
  unfold bound at hb ⊢
  split at hb
  · split at hb
    · rename_i hi; cases hb
      exact if_pos (by omega)
    · cases hb
  · cases hb

/-- With a greater capacity the same bounds come out, but for max. -/
theorem bounds_sound {len cap cap' : Nat} {lo hi mx : Option Operand} {l h m : Nat} (hb : bounds ρ len cap lo hi mx = some (l, h, m)) (hρ : ∀ x ∈ lo.toList ++ hi.toList ++ mx.toList, VRel σ (ρ x) (ρ' x))
    (hc : cap ≤ cap') (isSlice : Bool) : ∃ m', (Instr.sliceBounds isSlice len cap' (lo.map ρ') (hi.map ρ') (mx.map ρ')).run P w = .ok (l, h, m') w ∧ (mx = none → m' = cap' ∧ m = cap) ∧ (mx ≠ none → m' = m) ∧
      l ≤ h ∧ m ≤ cap ∧ (hi = none → mx = none ∧ h = len) ∧ (hi ≠ none → h ≤ m) := by
  unfold bounds at hb
  cases mx with
  | none =>
    simp only at hb
    cases hi with
    | none =>
      simp only at hb
      cases lo with
      | none => simp at hb; obtain ⟨rfl, rfl, rfl⟩ := hb; exact ⟨cap', by simp [Instr.sliceBounds], fun _ => ⟨rfl, rfl⟩, fun h => absurd rfl h, Nat.zero_le _, Nat.le_refl _, fun _ => ⟨rfl, rfl⟩, fun h => absurd rfl h⟩
      | some x =>
        simp only at hb
        cases h1 : bound (ρ x) len with
        | none => simp [h1] at hb
        | some a =>
          simp [h1] at hb; obtain ⟨rfl, rfl, rfl⟩ := hb
          exact ⟨cap', by simp [Instr.sliceBounds, bound_sound h1 (hρ x (by simp))], fun _ => ⟨rfl, rfl⟩, fun h => absurd rfl h, bound_le h1, Nat.le_refl _, fun _ => ⟨rfl, rfl⟩, fun h => absurd rfl h⟩
    | some y =>
      simp only at hb
      cases h2 : bound (ρ y) cap with
      | none => simp [h2] at hb
      | some b =>
        simp only [h2] at hb
        cases lo with
        | none =>
          simp at hb; obtain ⟨rfl, rfl, rfl⟩ := hb
          exact ⟨cap', by simp [Instr.sliceBounds, bound_sound (bound_wide hc h2) (hρ y (by simp))], fun _ => ⟨rfl, rfl⟩, fun h => absurd rfl h, Nat.zero_le _, Nat.le_refl _, fun h => by simp at h, fun _ => bound_le h2⟩
        | some x =>
          simp only at hb
          cases h1 : bound (ρ x) b with
          | none => simp [h1] at hb
          | some a =>
            simp [h1] at hb; obtain ⟨rfl, rfl, rfl⟩ := hb
            exact ⟨cap', by simp [Instr.sliceBounds, bound_sound (bound_wide hc h2) (hρ y (by simp)), bound_sound h1 (hρ x (by simp))], fun _ => ⟨rfl, rfl⟩, fun h => absurd rfl h, bound_le h1, Nat.le_refl _, fun h => by simp at h, fun _ => bound_le h2⟩
  | some z =>
    simp only at hb
    cases h3 : bound (ρ z) cap with
    | none => simp [h3] at hb
    | some c =>
      simp only [h3] at hb
      cases hi with
      | none => simp at hb
      | some y =>
        simp only at hb
        cases h2 : bound (ρ y) c with
        | none => simp [h2] at hb
        | some b =>
          simp only [h2] at hb
          cases lo with
          | none =>
            simp at hb; obtain ⟨rfl, rfl, rfl⟩ := hb
            exact ⟨c, by simp [Instr.sliceBounds, bound_sound (bound_wide hc h3) (hρ z (by simp)), bound_sound h2 (hρ y (by simp))], fun h => by simp at h, fun _ => rfl, Nat.zero_le _, bound_le h3, fun h => by simp at h, fun _ => bound_le h2⟩
          | some x =>
            simp only at hb
            cases h1 : bound (ρ x) b with
            | none => simp [h1] at hb
            | some a =>
              simp [h1] at hb; obtain ⟨rfl, rfl, rfl⟩ := hb
              exact ⟨c, by simp [Instr.sliceBounds, bound_sound (bound_wide hc h3) (hρ z (by simp)), bound_sound h2 (hρ y (by simp)), bound_sound h1 (hρ x (by simp))], fun h => by simp at h, fun _ => rfl, bound_le h1, bound_le h3, fun h => by simp at h, fun _ => bound_le h2⟩
end
end Go.AM
