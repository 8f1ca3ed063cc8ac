/-
  The abstract machine, part 13: the rest of the operations, and all of them in one theorem.
-/
import Derived.Test.YtlmoijifgbkapaaAm12
set_option linter.unusedVariables false
set_option linter.unusedSimpArgs false
namespace Go.AM
open Go.MapKept

section
variable {P : Program} {W : Nat → Prop} {lim : Nat} {σ : Sig} {H H' : Heap} {w : World} {dest : Option Nat} {ρ ρ' : Operand → Value} {v : Value}

theorem delete_run (hinv : Inv W lim σ H w) {t kt e ty : TypeId} (hu : P.underlying t = some (.map kt e)) {kk : KK} (hk : keyKind P kt = some kk) {m key : Operand} (hm : VRel σ (ρ m) (ρ' m)) (hkey : VRel σ (ρ key) (ρ' key))
    (hx : aOp lim dest (.delete kk m key) ρ H = some (v, H')) {ats : Array TypeId} (hat : ats[0]? = some t) : ∃ w', (Builtin.delete_ ats ty #[ρ' m, ρ' key]).run P w = .ok (.tuple #[]) w' ∧ Inv W lim σ H' w' ∧ Stp W w w' ∧ H'.length = H.length ∧ v = .tuple #[] := by
  simp only [aOp] at hx
  split at hx
  · rename_i hr
    split at hx
    case isFalse => cases hx
    rename_i hko
    cases hx
    obtain ⟨d, hd, hik, _⟩ := keyKind_desc hk hko
    have hke := keyEq_rel hko hkey
    rw [hr] at hm
    rw [hm.nilmap_left, hke]
    exact ⟨w, by simp [Builtin.delete_, hat, run_underlying hu, run_checkKey hd hik], hinv, Stp.refl _ _, rfl, rfl⟩
  · rename_i r hr
    split at hx
    case h_2 => cases hx
    rename_i es hb
    split at hx
    case isFalse => cases hx
    rename_i hcond
    obtain ⟨hko, hlim⟩ := hcond
    obtain ⟨d, hd, hik, _⟩ := keyKind_desc hk hko
    have hke := keyEq_rel hko hkey
    have hes : mapEntries H (ρ m) = some es := by rw [hr]; simp [mapEntries, hb]
    rcases hinv.entries hm hes with ⟨hm', rfl⟩ | ⟨r', L, ents, clock, hm0, hb', hL, hm', hh, hlen, hrel⟩
    · rw [hr] at hm; obtain ⟨L, _, h2⟩ := hm.map_left; rw [hm'] at h2; cases h2
    rw [hr] at hm0; cases hm0
    have hlt : L.blk < w.heap.size := (Array.getElem?_eq_some_iff.1 hh).1
    have hf0 : ∃ res, findKey (ρ key) es 0 = some res := by
      cases hf : findKey (ρ key) es 0 with
      | none => simp [hf] at hx
      | some res => exact ⟨res, rfl⟩
    obtain ⟨res, hf⟩ := hf0
    obtain ⟨g1, g2⟩ := findKey_sound (P := P) (w := w) (σ := σ) hk hko hlen hrel hf
    rw [hm', hke]
    cases res with
    | none =>
      simp [hf] at hx
      obtain ⟨rfl, rfl⟩ := hx
      have hset : H.set r (.map es) = H := by
        apply List.ext_getElem?
        intro j
        rw [List.getElem?_set]
        split
        · rename_i e; subst e
          have := hget_some hb rfl
          rw [this, if_pos (List.getElem?_eq_some_iff.1 this).1]
        · rfl
      obtain ⟨i1, i2⟩ := hinv.setMap (es' := es) hb hL hlim (ents := ents) (clock := clock) hlt hlen hrel
      rw [hset] at i1
      simp only [Option.map_none] at g1
      exact ⟨_, by simp [Builtin.delete_, hat, run_underlying hu, MapKept.run_getObj_map hh, run_checkKey hd hik, g1, MapKept.run_setObj_map _ hh], i1, i2, rfl, rfl⟩
    | some p =>
      obtain ⟨p1, p2⟩ := p
      obtain ⟨e1, e2, q1, q2, q3, q4⟩ := g2 _ rfl
      simp only at q1 q2 q3
      simp [hf] at hx
      obtain ⟨rfl, rfl⟩ := hx
      have hp1 : p1 < ents.size := (Array.getElem?_eq_some_iff.1 q2).1
      obtain ⟨i1, i2⟩ := hinv.setMap (es' := es.eraseIdx p1) hb hL hlim (ents := ents.eraseIdxIfInBounds p1) (clock := clock) hlt (by simp [Array.eraseIdxIfInBounds, List.length_eraseIdx, hp1]; rw [if_pos (by omega)]; omega) (fun j a b ha hb2 => by
        rw [List.getElem?_eraseIdx] at ha
        simp only [Array.eraseIdxIfInBounds, hp1, dif_pos, Array.getElem?_eraseIdx] at hb2
        split at ha
        · rename_i h; rw [if_pos h] at hb2; exact hrel j a b ha hb2
        · rename_i h; rw [if_neg h] at hb2; exact hrel _ a b ha hb2)
      simp only [Option.map_some] at g1
      exact ⟨_, by simp [Builtin.delete_, hat, run_underlying hu, MapKept.run_getObj_map hh, run_checkKey hd hik, g1, MapKept.run_setObj_map _ hh], i1, i2, by simp, rfl⟩
  · cases hx

theorem minmax_sound (mx : Bool) {x y z : Value} (h : aMinMax mx x y = some z) : (if mx then Builtin.max2 x y else Builtin.min2 x y).run P w = .ok z w ∧ ∃ k n, z = .int k n := by
  unfold aMinMax at h
  split at h
  · split at h
    · rename_i hk
      cases h; subst hk
      cases mx <;> simp [Builtin.min2, Builtin.max2]
    · cases h
  · cases h
theorem minmaxAll_sound (mx : Bool) : ∀ (ys ys' : List Value) (x x' r : Value), VRel σ x x' → LRel σ ys ys' → aMinMaxAll mx x ys = some r →
    ∃ r', (ys'.foldlM (if mx then Builtin.max2 else Builtin.min2) x').run P w = .ok r' w ∧ VRel σ r r'
  | [], ys', x, x', r, hx, hy, h => by
    have : ys' = [] := by have := hy.1; simpa using this.symm
    subst this
    simp [aMinMaxAll] at h; subst h
    exact ⟨x', by simp, hx⟩
  | y :: ys, ys', x, x', r, hx, hy, h => by
    cases ys' with
    | nil => have := hy.1; simp at this
    | cons y' ys' =>
      simp only [aMinMaxAll] at h
      split at h
      case h_2 => cases h
      rename_i z hz
      have hxy : x' = x ∧ y' = y := by
        unfold aMinMax at hz
        split at hz
        · exact ⟨hx.int_left, hy.head.int_left⟩
        · cases hz
      obtain ⟨rfl, rfl⟩ := hxy
      obtain ⟨h1, k, n, rfl⟩ := minmax_sound (P := P) (w := w) mx hz
      obtain ⟨r', h2, h3⟩ := minmaxAll_sound mx ys ys' _ _ r (.atom rfl) hy.tail h
      refine ⟨r', ?_, h3⟩
      rw [List.foldlM_cons, Sem.run_bind]
      have : ((if mx then Builtin.max2 else Builtin.min2) x' y').run P w = .ok (.int k n) w := by cases mx <;> simpa using h1
      rw [this]
      exact h2

theorem bytes_fold : ∀ (ns : List Int) (s : ByteArray), ns.foldl (fun r n => r.push (UInt8.ofNat n.toNat)) s = ⟨s.data ++ (ns.map fun n => UInt8.ofNat n.toNat).toArray⟩
  | [], s => by simp
  | n :: ns, s => by
    rw [List.foldl_cons, bytes_fold ns]
    simp [ByteArray.push]
theorem bytesOf_ints : ∀ {cs : List Value} {bs : List UInt8}, bytesOf cs = some bs → ∃ ns : List Int, cs = ns.map (Value.int .u8) ∧ bs = ns.map fun n => UInt8.ofNat n.toNat
  | [], bs, h => by simp [bytesOf] at h; subst h; exact ⟨[], rfl, rfl⟩
  | c :: cs, bs, h => by
    unfold bytesOf at h
    split at h
    · rename_i h1 h2; cases h2
    · rename_i n l h1
      split at h
      · rename_i bs' hb
        cases h
        obtain ⟨ns, h2, h3⟩ := bytesOf_ints hb
        cases h1
        exact ⟨n :: ns, by simp [h2], by simp [h3]⟩
      · cases h
    · cases h

theorem b2s_sound (hinv : Inv W lim σ H w) {s d e : TypeId} (hs : P.underlying s = some (.slice e)) (he : P.underlying e = some (.int .u8)) (hd : P.underlying d = some .string) {x : Operand} (hv : VRel σ (ρ x) (ρ' x))
    (hx : aOp lim dest (.b2s x) ρ H = some (v, H')) : ∃ v', (convert s d (ρ' x)).run P w = .ok v' w ∧ VRel σ v v' ∧ H' = H := by
  simp only [aOp] at hx
  split at hx
  · rename_i n c hr
    rw [hr] at hv
    obtain ⟨rfl, rfl, h2⟩ := hv.nilslice_left
    simp at hx
    obtain ⟨rfl, rfl⟩ := hx
    rw [h2, run_convert_bytes_string w s d e none 0 0 hs he hd]
    exact ⟨.string .empty, by simp [Conv.bytesToString], .atom rfl, rfl⟩
  · rename_i a n c hr
    split at hx
    case h_2 => cases hx
    rename_i cs hcs
    split at hx
    case h_2 => cases hx
    rename_i bs hbs
    cases hx
    rw [hr] at hv
    obtain ⟨ns, hns, hb⟩ := bytesOf_ints hbs
    obtain ⟨hsp, L, hL, hc⟩ := hv.slice_left
    have fin : ∀ (a' : Addr) c', ρ' x = .slice (some a') n c' → (Go.loadCells a' n).run P w = .ok (ns.map (Value.int .u8)).toArray w → ∃ v', (convert s d (ρ' x)).run P w = .ok v' w ∧ VRel σ (.string ⟨bs.toArray⟩) v' ∧ H = H := by
      intro a' c' hx' hl
      refine ⟨_, by rw [hx', run_convert_bytes_string w s d e (some a') n c' hs he hd, run_bytesToString w a' n c' ns hl], ?_, rfl⟩
      rw [bytes_fold, hb]
      have e : (ByteArray.empty.data ++ (ns.map fun n => UInt8.ofNat n.toNat).toArray) = (ns.map fun n => UInt8.ofNat n.toNat).toArray := by
        show (#[] : Array UInt8) ++ _ = _
        simp
      rw [e]
      exact .atom rfl
    have norm : ∀ c', ρ' x = .slice (some ⟨L.blk, L.base + a.off, none⟩) n c' → ∃ v', (convert s d (ρ' x)).run P w = .ok v' w ∧ VRel σ (.string ⟨bs.toArray⟩) v' ∧ H = H := by
      intro c' hx'
      obtain ⟨l', h1, h2, h3, h4⟩ := loadN_run (P := P) hinv hL hcs
      refine fin _ c' hx' ?_
      rw [h1]
      congr 2
      apply List.ext_getElem?
      intro j
      cases hj : cs[j]? with
      | none =>
        have : l'[j]? = none := by
          rw [List.getElem?_eq_none_iff] at hj ⊢
          rw [← h2.1]; exact hj
        rw [this, ← hns, hj]
      | some y =>
        obtain ⟨y', g1, g2⟩ := h2.get hj
        rw [g1, ← hns, hj]
        have : ∃ k n, y = .int k n := by
          have hm := List.mem_of_getElem? hj
          rw [hns] at hm
          obtain ⟨q, _, rfl⟩ := List.mem_map.1 hm
          exact ⟨_, _, rfl⟩
        obtain ⟨k, n, rfl⟩ := this
        rw [g2.int_left]
    rcases hc with ⟨_, hx'⟩ | ⟨e', _, c', _, _, hx'⟩ | ⟨a', _, h0, hx'⟩
    · exact norm _ hx'
    · exact norm _ hx'
    · subst h0
      have hnil : cs = [] := by
        unfold AM.loadCells at hcs
        split at hcs
        · split at hcs
          · simp at hcs; exact hcs
          · cases hcs
        · cases hcs
      have hns0 : ns = [] := by rw [hnil] at hns; simpa using hns.symm
      subst hns0
      exact fin a' 0 hx' (by simpa using run_loadCells_list (P := P) w a' [] (by simp))
  · cases hx
end
end Go.AM
