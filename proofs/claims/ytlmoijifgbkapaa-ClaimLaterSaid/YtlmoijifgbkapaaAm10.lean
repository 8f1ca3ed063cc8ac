/-
  The abstract machine, part 10: addresses, slices, appends, maps.
-/
import Derived.Test.YtlmoijifgbkapaaAm9
set_option linter.unusedVariables false
set_option linter.unusedSimpArgs false
namespace Go.AM
open Go.MapKept

section
variable {P : Program} {W : Nat → Prop} {lim : Nat} {σ : Sig} {H H' : Heap} {w : World} {dest : Option Nat} {ρ ρ' : Operand → Value} {v : Value}

theorem add_off (a : Addr) (n : Nat) (hs : a.spot = none) : a.add n = ⟨a.block, a.off + n, none⟩ := by
  obtain ⟨b, o, s⟩ := a
  simp only at hs; subst hs
  unfold Addr.add
  split
  · rename_i h; subst h; rfl
  · rfl

/-- An address a few cells on. -/
theorem VRel.ptr_add {a : Addr} {L : Loc} (hL : σ a.block = some L) (hs : a.spot = none) (n : Nat) :
    VRel σ (.pointer (some (a.add n))) (.pointer (some ((⟨L.blk, L.base + a.off, none⟩ : Addr).add n))) := by
  rw [add_off a n hs, add_off _ n rfl]
  have := VRel.ptr (σ := σ) (i := a.block) (k := a.off + n) hL
  rw [← Nat.add_assoc] at this
  exact this

theorem run_fieldAt {s f : Nat} {fs : Array Field} {fd : Field} {n : Nat} (hu : P.underlying s = some (.struct fs)) (hf : fs[f]? = some fd) (hn : sizeOfT P fd.type = some n) (h0 : n ≠ 0) (a : Addr) :
    (Instr.fieldAt s (.pointer (some a)) f).run P w = .ok (.pointer (some (a.add fd.offset))) w := by
  simp [Instr.fieldAt, run_underlying hu, hf, Instr.sureAddr, fieldPlace, run_size hn, h0]

theorem run_indexAt_slice' {t e : TypeId} {s : Nat} (hu : P.underlying t = some (.slice e)) (hs : sizeOfT P e = some s) (a : Addr) (len cap : Nat) (k : IntKind) (n : Int) (h : 0 ≤ n ∧ n < (len : Int)) :
    (Instr.indexAt t (.slice (some a) len cap) (.int k n)).run P w = .ok (.pointer (some (a.add (n.toNat * s)))) w := by
  simp [Instr.indexAt, asIntOf, run_underlying hu, run_size hs, h]
theorem run_indexAt_array' {t e : TypeId} {s len : Nat} (hu : P.underlying t = some (.array len e)) (hs : sizeOfT P e = some s) (a : Addr) (k : IntKind) (n : Int) (h : 0 ≤ n ∧ n < (len : Int)) :
    (Instr.indexAt t (.pointer (some a)) (.int k n)).run P w = .ok (.pointer (some (a.add (n.toNat * s)))) w := by
  simp [Instr.indexAt, asIntOf, run_underlying hu, run_size hs, Instr.sureAddr, h]

theorem run_index_array' {t e : TypeId} {s len : Nat} (hu : P.underlying t = some (.array len e)) (hs : sizeOfT P e = some s) (cs : Array Value) (k : IntKind) (n : Int) (h : 0 ≤ n ∧ n < (len : Int)) :
    (Instr.index t (.agg cs) (.int k n)).run P w = (part e cs (n.toNat * s)).run P w := by
  simp [Instr.index, asIntOf, run_underlying hu, run_size hs, h]
theorem run_index_string' {t : TypeId} (hu : P.underlying t = some .string) (s : ByteArray) (k : IntKind) (n : Int) {b : UInt8} (h0 : 0 ≤ n) (h : s.data.toList[n.toNat]? = some b) :
    (Instr.index t (.string s) (.int k n)).run P w = .ok (.int .u8 b.toNat) w := by
  have h' : s[n.toNat]? = some b := by
    obtain ⟨hl, hb⟩ := List.getElem?_eq_some_iff.1 h
    have hl' : n.toNat < s.size := by simpa using hl
    show (if h : n.toNat < s.size then some s[n.toNat] else none) = some b
    rw [dif_pos hl', ← hb]
    rfl
  simp [Instr.index, asIntOf, run_underlying hu, h0, h']

/-! ### Slicing -/
theorem sliceS_sound {t e : TypeId} {s : Nat} (hu : P.underlying t = some (.slice e)) (hs : sizeOfT P e = some s) {x x' : Value} (hx : VRel σ x x') {lo hi mx : Option Operand}
    (hρ : ∀ y ∈ lo.toList ++ hi.toList ++ mx.toList, VRel σ (ρ y) (ρ' y)) (h : aSliceS s ρ x lo hi mx = some v) :
    ∃ v', (Instr.sliceAt t x' (lo.map ρ') (hi.map ρ') (mx.map ρ')).run P w = .ok v' w ∧ VRel σ v v' := by
  unfold aSliceS at h
  split at h
  case h_2 => cases h
  rename_i a len cap
  have run : ∀ (a' : Option Addr) (len' cap' l h' m' : Nat), (Instr.sliceBounds true len' cap' (lo.map ρ') (hi.map ρ') (mx.map ρ')).run P w = .ok (l, h', m') w →
      (Instr.sliceAt t (.slice a' len' cap') (lo.map ρ') (hi.map ρ') (mx.map ρ')).run P w = .ok (.slice (if m' = l then a' else a'.map (·.add (l * s))) (h' - l) (m' - l)) w := by
    intro a' len' cap' l h' m' hb
    simp [Instr.sliceAt, Instr.slice, run_underlying hu, hb, run_size hs]
  cases a with
  | none =>
    obtain ⟨rfl, rfl, rfl⟩ := hx.nilslice_left
    have h62 : ¬ (0 = loose s) := by unfold loose; omega
    rw [if_neg h62, if_pos (by omega)] at h
    split at h
    · cases h
    · rename_i l h' m hb
      cases h
      obtain ⟨m', r1, r2, r3, r4, r5, r6, r7⟩ := bounds_sound (P := P) (w := w) hb hρ (Nat.le_refl _) true
      have hm : m' = m := by
        by_cases e : mx = none
        · rw [(r2 e).1, (r2 e).2]
        · exact r3 e
      subst hm
      have hz : l = 0 ∧ h' = 0 ∧ m' = 0 := by
        by_cases e : hi = none
        · have := r6 e; omega
        · have := r7 e; omega
      obtain ⟨rfl, rfl, rfl⟩ := hz
      exact ⟨_, run _ _ _ _ _ _ r1, by simpa using VRel.atom (by rfl)⟩
  | some a =>
    obtain ⟨hsp, L, hL, hc⟩ := hx.slice_left
    split at h
    · -- a capacity that is not known
      rename_i hcap
      split at h
      · cases h
      rename_i l h' m hb
      rcases hc with ⟨hlt, _⟩ | ⟨e', he, c', hn, hr, rfl⟩ | ⟨a', he, hn, rfl⟩
      · rw [hcap] at hlt; unfold loose at hlt; omega
      · have hes : e' = s := by rw [hcap] at he; unfold loose at he; omega
        subst hes
        obtain ⟨m', r1, r2, r3, r4, r5, r6, r7⟩ := bounds_sound (P := P) (w := w) hb hρ hn true
        have hh : h' ≤ len := by
          by_cases e : hi = none
          · have := r6 e; omega
          · have := r7 e; omega
        refine ⟨_, run _ _ _ _ _ _ r1, ?_⟩
        cases mx with
        | none =>
          simp only at h; cases h
          obtain ⟨e1, e2⟩ := r2 rfl
          subst e1
          by_cases hml : m' = l
          · rw [if_pos hml]
            have : h' - l = 0 := by omega
            rw [this, hml, Nat.sub_self]
            simp only [Option.map_some]
            rw [add_off a _ hsp]
            exact .eslice hL (.inr ⟨_, rfl⟩)
          · rw [if_neg hml]
            simp only [Option.map_some]
            rw [add_off a _ hsp, add_off _ _ rfl]
            have key : a.off + l * e' + (m' - l) * e' ≤ L.room := by
              have : l * e' + (m' - l) * e' = m' * e' := by rw [← Nat.add_mul]; congr 1; omega
              omega
            have := VRel.lslice (σ := σ) (i := a.block) (k := a.off + l * e') (n := h' - l) (e := e') (c := m' - l) hL (by omega) key
            rw [← Nat.add_assoc] at this
            exact this
        | some z =>
          simp only at h
          split at h
          case isFalse => cases h
          rename_i hm62
          cases h
          have hmm := r3 (by simp)
          subst hmm
          split
          · exact VRel.slice' hsp hL (by omega)
          · simp only [Option.map_some]
            rw [add_off a _ hsp, add_off _ _ rfl]
            have := VRel.slice (σ := σ) (i := a.block) (k := a.off + l * e') (n := h' - l) (c := m' - l) hL (by omega)
            rw [← Nat.add_assoc] at this
            exact this
      · subst hn
        obtain ⟨m', r1, r2, r3, r4, r5, r6, r7⟩ := bounds_sound (P := P) (w := w) hb hρ (Nat.le_refl _) true
        have hm : m' = m := by
          by_cases e : mx = none
          · rw [(r2 e).1, (r2 e).2]
          · exact r3 e
        subst hm
        have hz : l = 0 ∧ h' = 0 ∧ m' = 0 := by
          by_cases e : hi = none
          · have := r6 e; omega
          · have := r7 e; omega
        obtain ⟨rfl, rfl, rfl⟩ := hz
        refine ⟨_, run _ _ _ _ _ _ r1, ?_⟩
        cases mx with
        | none =>
          simp only at h; cases h
          simp only [Option.map_some, if_true, Nat.sub_self]
          rw [add_off a _ hsp]
          exact .eslice hL (.inr ⟨_, rfl⟩)
        | some z =>
          simp at h; subst h
          exact VRel.eslice' hsp hL (.inl rfl)
    · split at h
      case isFalse => cases h
      rename_i hlt
      split at h
      · cases h
      rename_i l h' m hb
      cases h
      rcases hc with ⟨_, rfl⟩ | ⟨e', he, _⟩ | ⟨a', he, hn, rfl⟩
      · obtain ⟨m', r1, r2, r3, r4, r5, r6, r7⟩ := bounds_sound (P := P) (w := w) hb hρ (Nat.le_refl _) true
        have hm : m' = m := by
          by_cases e : mx = none
          · rw [(r2 e).1, (r2 e).2]
          · exact r3 e
        subst hm
        refine ⟨_, run _ _ _ _ _ _ r1, ?_⟩
        split
        · exact VRel.slice' hsp hL (by omega)
        · simp only [Option.map_some]
          rw [add_off a _ hsp, add_off _ _ rfl]
          have := VRel.slice (σ := σ) (i := a.block) (k := a.off + l * s) (n := h' - l) (c := m' - l) hL (by omega)
          rw [← Nat.add_assoc] at this
          exact this
      · exact absurd he (by unfold loose at *; omega)
      · subst hn
        have hc0 : cap = 0 := by
          rcases he with h | ⟨e, h⟩
          · exact h
          · exact absurd h (by unfold loose at *; omega)
        subst hc0
        obtain ⟨m', r1, r2, r3, r4, r5, r6, r7⟩ := bounds_sound (P := P) (w := w) hb hρ (Nat.le_refl _) true
        have hm : m' = m := by
          by_cases e : mx = none
          · rw [(r2 e).1, (r2 e).2]
          · exact r3 e
        subst hm
        have hz : l = 0 ∧ h' = 0 ∧ m' = 0 := by
          by_cases e : hi = none
          · have := r6 e; omega
          · have := r7 e; omega
        obtain ⟨rfl, rfl, rfl⟩ := hz
        refine ⟨_, run _ _ _ _ _ _ r1, ?_⟩
        simp only [if_true, Nat.sub_self]
        exact VRel.eslice' hsp hL (.inl rfl)
end
end Go.AM
