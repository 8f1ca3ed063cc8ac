/-
  The abstract machine, part 14: all operations but calls, in one theorem.
-/
import Derived.Test.YtlmoijifgbkapaaAm13
set_option linter.unusedVariables false
set_option linter.unusedSimpArgs false
namespace Go.AM
open Go.MapKept

section
variable {P : Program} {W : Nat → Prop} {lim : Nat} {σ : Sig} {H H' : Heap} {w : World} {dest : Option Nat} {ρ ρ' : Operand → Value} {v : Value}

theorem OpSound.wrote (hinv : Inv W lim σ H w) {run : Result Next} {nx : Next} {v' : Value} {w' : World} (hr : run = .ok nx w') (hn : nextVal nx = some v') (hv : VRel σ v v') (hi : Inv W lim σ H' w') (hs : Stp W w w') (hl : H'.length = H.length) :
    OpSound W lim σ dest H w run v H' := ⟨nx, w', σ, v', hr, hn, hv, hi, hs, Sig.le_refl σ, fun j hj => absurd rfl hj, by omega, fun _ => hl⟩

theorem lrel_map_rho {l : List Operand} (h : ∀ x ∈ l, VRel σ (ρ x) (ρ' x)) : LRel σ (l.map ρ) (l.map ρ') := LRel.map l ρ ρ' h

theorem len_run {ats : Array TypeId} {ty t : TypeId} {x : Value} (h0 : ats[0]? = some t) :
    (P.underlying t = some .string → ∀ s, x = .string s → (Builtin.len_ ats ty #[x]).run P w = .ok (.int .i64 s.size) w) ∧
    ((∃ e, P.underlying t = some (.slice e)) → ∀ a n c, x = .slice a n c → (Builtin.len_ ats ty #[x]).run P w = .ok (.int .i64 n) w) ∧
    (∀ n e, P.underlying t = some (.array n e) → (Builtin.len_ ats ty #[x]).run P w = .ok (.int .i64 n) w) := by
  refine ⟨fun hu s hx => ?_, fun ⟨e, hu⟩ a n c hx => ?_, fun n e hu => ?_⟩
  · subst hx; simp [Builtin.len_, h0, run_underlying hu, goInt]
  · subst hx; simp [Builtin.len_, h0, run_underlying hu, goInt]
  · cases x <;> simp [Builtin.len_, h0, run_underlying hu, goInt]

theorem builtin_run (b : Builtin) (ats : Array TypeId) (ty : TypeId) (cs : Array Bool) (args : Array Value) (s : Sem Value) {x : Value} {w' : World} (hb : builtin b ats ty cs args = (do pure (.value (← s)))) (h : s.run P w = .ok x w') :
    (builtin b ats ty cs args).run P w = .ok (.value x) w' := by
  rw [hb]; simp [h]

theorem call_builtin (o : Oper) (c : Call) (b : Builtin) (ho : o.op = .call c) (hc : c.callee = .builtin b) :
    execOp ρ' o = builtin b c.argTypes o.type (c.args.map fun | .const _ => true | _ => false) (c.args.map ρ') := by
  simp only [execOp, ho, resolve, hc]
  rfl

theorem args_one {a : Array Operand} {x : Operand} (h : a.toList = [x]) : a.map ρ' = #[ρ' x] := by
  apply Array.ext'; simp [h]
theorem args_two {a : Array Operand} {x y : Operand} (h : a.toList = [x, y]) : a.map ρ' = #[ρ' x, ρ' y] := by
  apply Array.ext'; simp [h]
theorem types_get {a : Array TypeId} {t : TypeId} {l : List TypeId} (h : a.toList = t :: l) : a[0]? = some t := by
  rw [← Array.getElem?_toList, h]; rfl

theorem copy_sound (hinv : Inv W lim σ H w) {dt e ty : TypeId} {ats : Array TypeId} (hat : ats[0]? = some dt) (hu : P.underlying dt = some (.slice e)) {esz : Nat} (hes : sizeOfT P e = some esz) {d x : Operand} (hd : VRel σ (ρ d) (ρ' d)) (hxv : VRel σ (ρ x) (ρ' x))
    (hx : aOp lim dest (.copy esz d x) ρ H = some (v, H')) : ∃ w' v', (Builtin.copy_ ats ty #[ρ' d, ρ' x]).run P w = .ok v' w' ∧ VRel σ v v' ∧ Inv W lim σ H' w' ∧ Stp W w w' ∧ H'.length = H.length := by
  simp only [aOp] at hx
  split at hx
  case h_2 => cases hx
  rename_i base dl dc sl hdv hsl
  -- what is read
  have read : ∀ cs, copyCells H esz (min sl dl) (ρ x) = some cs →
      ∃ cs', (Builtin.lenOf (ρ' x)).run P w = .ok sl w ∧ (Builtin.firstCells esz (min sl dl) (ρ' x)).run P w = .ok cs'.toArray w ∧ LRel σ cs cs' ∧ (∀ y ∈ cs', y.oneCell' = true) := by
    intro cs hcs
    cases hxx : ρ x with
    | slice a n c =>
      rw [hxx] at hcs hxv hsl
      simp [lenOf] at hsl; subst hsl
      cases a with
      | none =>
        obtain ⟨rfl, rfl, h2⟩ := hxv.nilslice_left
        simp [copyCells] at hcs; subst hcs
        rw [h2]
        exact ⟨[], by simp [Builtin.lenOf], by simp [Builtin.firstCells], LRel.nil, fun y hy => by simp at hy⟩
      | some a =>
        simp only [copyCells] at hcs
        obtain ⟨hsp, L, hL, hc⟩ := hxv.slice_left
        have norm : ∀ c', ρ' x = .slice (some ⟨L.blk, L.base + a.off, none⟩) n c' → ∃ cs', (Builtin.lenOf (ρ' x)).run P w = .ok n w ∧ (Builtin.firstCells esz (min n dl) (ρ' x)).run P w = .ok cs'.toArray w ∧ LRel σ cs cs' ∧ (∀ y ∈ cs', y.oneCell' = true) := by
          intro c' hx'
          obtain ⟨l', h1, h2, h3, h4⟩ := loadN_run (P := P) hinv hL hcs
          exact ⟨l', by rw [hx']; simp [Builtin.lenOf], by rw [hx']; simpa [Builtin.firstCells] using h1, h2, h4⟩
        rcases hc with ⟨_, hx'⟩ | ⟨e', _, c', _, _, hx'⟩ | ⟨a', _, h0, hx'⟩
        · exact norm _ hx'
        · exact norm _ hx'
        · subst h0
          have hnil : cs = [] := by
            unfold AM.loadCells at hcs
            split at hcs
            · split at hcs
              · simp at hcs; exact hcs
              · cases hcs
            · cases hcs
          subst hnil
          have h0 : (Go.loadCells a' 0).run P w = .ok #[] w := by simpa using run_loadCells_list (P := P) w a' [] (by simp)
          exact ⟨[], by rw [hx']; simp [Builtin.lenOf], by rw [hx']; simpa [Builtin.firstCells] using h0, LRel.nil, fun y hy => by simp at hy⟩
    | string s =>
      rw [hxx] at hcs hxv hsl
      simp [lenOf] at hsl; subst hsl
      simp only [copyCells] at hcs
      split at hcs
      case isFalse => cases hcs
      rename_i he1
      cases hcs
      rw [hxv.string_left]
      refine ⟨_, by simp [Builtin.lenOf], ?_, LRel.refl_of fun y hy => ?_, fun y hy => ?_⟩
      · simp only [Builtin.firstCells, Sem.run_pure]
        congr 1
        apply Array.ext'
        simp only [Array.toList_map, ByteArray.data_extract, Array.toList_extract]
        simp [List.extract]
      · obtain ⟨b, _, rfl⟩ := List.mem_map.1 hy; exact .atom rfl
      · obtain ⟨b, _, rfl⟩ := List.mem_map.1 hy; rfl
    | _ => rw [hxx] at hsl; simp [lenOf] at hsl
  cases hcs : copyCells H esz (min sl dl) (ρ x) with
  | none => rw [hcs] at hx; cases hx
  | some cs =>
  rw [hcs] at hx
  cases base with
  | some a =>
    simp only at hx
    obtain ⟨cs', r1, r2, r3, r4⟩ := read cs hcs
    rw [hdv] at hd
    obtain ⟨hsp, L, hL, hc⟩ := hd.slice_left
    by_cases hn0 : min sl dl = 0
    · rw [if_pos hn0] at hx
      cases hx
      have hcs0 : cs = [] := by
        rw [hn0] at hcs
        unfold copyCells at hcs
        split at hcs
        · split at hcs
          · cases hcs; rfl
          · cases hcs
        · simp only [Nat.zero_mul] at hcs
          unfold AM.loadCells at hcs
          split at hcs
          · split at hcs
            · simp at hcs; exact hcs
            · cases hcs
          · cases hcs
        · split at hcs
          · simp at hcs; exact hcs
          · cases hcs
        · cases hcs
      subst hcs0
      have hcs'0 : cs' = [] := by have := r3.1; simpa using this.symm
      subst hcs'0
      have hd' : ∃ b' c', ρ' d = .slice (some b') dl c' := by
        rcases hc with ⟨_, h⟩ | ⟨_, _, _, _, _, h⟩ | ⟨_, _, h0, h⟩
        · exact ⟨_, _, h⟩
        · exact ⟨_, _, h⟩
        · rw [h0]; exact ⟨_, _, h⟩
      obtain ⟨b', c', hd'⟩ := hd'
      refine ⟨w, .int .i64 0, ?_, .atom rfl, hinv, Stp.refl _ _, rfl⟩
      rw [hd']
      have hmin : Nat.min sl dl = 0 := hn0
      rw [hn0] at r2
      simp [Builtin.copy_, hat, run_underlying hu, r1, run_size hes, hmin, r2, storeCells, goInt]
    · rw [if_neg hn0] at hx
      simp only [Option.map_eq_some_iff, Prod.mk.injEq] at hx
      obtain ⟨H2, hst, rfl, rfl⟩ := hx
      obtain ⟨w', q1, q2, q3, q4⟩ := hinv.store (P := P) hL hst r3 r4
      have hd' : ∃ c', ρ' d = .slice (some ⟨L.blk, L.base + a.off, none⟩) dl c' := by
        rcases hc with ⟨_, h⟩ | ⟨_, _, _, _, _, h⟩ | ⟨_, _, h0, h⟩
        · exact ⟨_, h⟩
        · exact ⟨_, h⟩
        · rw [h0] at hn0; simp at hn0
      obtain ⟨c', hd'⟩ := hd'
      refine ⟨w', .int .i64 (min sl dl : Nat), ?_, .atom rfl, q2, q3, q4⟩
      rw [hd']
      have hmin : Nat.min sl dl = min sl dl := rfl
      simp [Builtin.copy_, hat, run_underlying hu, r1, run_size hes, hmin, r2, q1, goInt]
  | none =>
    simp only at hx
    split at hx
    case isFalse => cases hx
    rename_i hdl
    cases hx
    obtain ⟨cs', r1, r2, r3, r4⟩ := read cs hcs
    rw [hdv] at hd
    obtain ⟨h1, h2, h3⟩ := hd.nilslice_left
    refine ⟨w, .int .i64 0, ?_, .atom rfl, hinv, Stp.refl _ _, rfl⟩
    rw [h3]
    subst hdl
    have hmin : Nat.min sl 0 = 0 := Nat.min_zero sl
    rw [Nat.min_zero] at r2
    simp [Builtin.copy_, hat, run_underlying hu, r1, run_size hes, hmin, r2, goInt]
end
end Go.AM
