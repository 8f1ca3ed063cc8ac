/-
  The abstract machine, part 11: append and copy.
-/
import Derived.Test.YtlmoijifgbkapaaAm10
import Derived.Deep.Upon
set_option linter.unusedVariables false
set_option linter.unusedSimpArgs false
namespace Go.AM
open Go.MapKept

section
variable {P : Program} {W : Nat → Prop} {lim : Nat} {σ : Sig} {H H' : Heap} {w : World} {dest : Option Nat} {v : Value}

theorem src_sound (hinv : Inv W lim σ H w) {xt : TypeId} {esz m : Nat} {str : Bool} (hxt : if str then P.underlying xt = some .string ∧ esz = 1 else ∃ e', P.underlying xt = some (.slice e')) {x x' : Value} (hx : VRel σ x x')
    {new : List Value} (hn : firstCells H esz str x = some new) (hm : lenOf x = some m) :
    ∃ news, Src P esz xt x' m news w ∧ LRel σ new news ∧ (∀ y ∈ news, y.oneCell' = true) ∧ new.length = m * esz := by
  unfold firstCells at hn
  split at hn
  · rename_i n c
    obtain ⟨rfl, rfl, rfl⟩ := hx.nilslice_left
    simp [lenOf] at hm; subst hm
    split at hn
    · cases hn
    · rename_i hs
      cases hn
      simp at hs
      rw [hs] at hxt
      obtain ⟨e', he'⟩ := hxt
      exact ⟨[], Src.ofNil w he' 0, LRel.nil, fun y hy => by simp at hy, by simp⟩
  · rename_i a n c
    simp [lenOf] at hm; subst hm
    split at hn
    · cases hn
    · rename_i hs
      simp at hs
      rw [hs] at hxt
      obtain ⟨e', he'⟩ := hxt
      obtain ⟨hsp, L, hL, hc⟩ := hx.slice_left
      have norm : ∀ c', x' = .slice (some ⟨L.blk, L.base + a.off, none⟩) n c' → ∃ news, Src P esz xt x' n news w ∧ LRel σ new news ∧ (∀ y ∈ news, y.oneCell' = true) ∧ new.length = n * esz := by
        intro c' hx'
        obtain ⟨l', h1, h2, h3, h4⟩ := hinv.loadCells hL hn
        subst hx'
        refine ⟨l', Src.ofSlice w he' _ n c' l' h2 (fun j u hu => by rw [Addr.add_mid]; exact h4 j u hu) h3, h1, h3, by rw [h1.1, h2]⟩
      rcases hc with ⟨_, hx'⟩ | ⟨e, _, c', _, _, hx'⟩ | ⟨a', _, h0, hx'⟩
      · exact norm _ hx'
      · exact norm _ hx'
      · subst h0 hx'
        have hnew : new = [] := by
          unfold AM.loadCells at hn
          split at hn
          · split at hn
            · simp at hn; exact hn
            · cases hn
          · cases hn
        subst hnew
        exact ⟨[], Src.ofSlice w he' _ 0 0 [] (by simp) (fun j u hu => by simp at hu) (fun u hu => by simp at hu), LRel.nil, fun y hy => by simp at hy, by simp⟩
  · rename_i s
    simp [lenOf] at hm; subst hm
    split at hn
    case isFalse => cases hn
    rename_i hs
    cases hn
    rw [if_pos hs] at hxt
    obtain ⟨hxt, rfl⟩ := hxt
    rw [hx.string_left]
    refine ⟨byteCells s, Src.ofString w hxt s, LRel.refl_of fun y hy => ?_, fun y hy => ?_, by simp⟩
    · obtain ⟨b, _, rfl⟩ := List.mem_map.1 hy; exact .atom rfl
    · obtain ⟨b, _, rfl⟩ := List.mem_map.1 hy; rfl
  · cases hn

theorem append_sound (hinv : Inv W lim σ H w) (hd : ∀ d, dest = some d → d < H.length ∧ σ d = none) {st xt ty e : TypeId} (hu : P.underlying st = some (.slice e)) {esz bytes : Nat} {str : Bool}
    (hxt : if str then P.underlying xt = some .string ∧ esz = 1 else ∃ e', P.underlying xt = some (.slice e')) (hes : sizeOfT P e = some esz) (heb : bytesOfT P e = some bytes) {z : List Value} (hz : zeroOf P e = some z) (hzl : z.length = esz)
    {s s' x x' : Value} (hs : VRel σ s s') (hx : VRel σ x x') (h : aAppend lim dest esz bytes str s x H = some (v, H')) {run : Result Next}
    (hrun : run = ((Builtin.append_ #[st, xt] ty #[s', x']).run P w).andThen fun v w' => .ok (.value v) w') : OpSound W lim σ dest H w run v H' := by
  obtain ⟨i, hi, his⟩ := size_info hes
  obtain ⟨i2, hi2, hib⟩ := bytes_info heb
  rw [hi] at hi2; cases hi2
  obtain ⟨i3, zv, hi3, hzv, hzz, hat⟩ := zero_info hz
  rw [hi] at hi3; cases hi3
  have hzs : zv.cells.size = esz := by rw [← hzl, hzz]; simp
  subst his hib
  unfold aAppend at h
  split at h
  case h_2 => cases h
  rename_i base n cap new m hnew hm
  obtain ⟨news, hsrc, hrel, hone, hnl⟩ := src_sound hinv hxt hx hnew hm
  split at h
  · cases h
  rename_i hcond
  have hc1 : i.size ≠ 0 := fun e => hcond (.inl e)
  have hc2 : ¬ (n + m) * i.bytes > maxBytes := fun e => hcond (.inr (.inl e))
  have hc3 : ¬ n + m ≥ 2 ^ 62 := fun e => hcond (.inr (.inr (.inl e)))
  have hc4 : ¬ cap < n := fun e => hcond (.inr (.inr (.inr e)))
  have hbytes : (n + m) * i.bytes ≤ 140737488355328 := by unfold maxBytes at hc2; omega
  -- nothing is appended
  split at h
  · rename_i hm0
    subst hm0
    have hn0 : news = [] := by have := hrel.1; simp at hnl; subst hnl; simpa using this.symm
    subst hn0
    cases h
    have fin : ∀ b' n' c', s' = .slice b' n' c' → n' ≤ c' → OpSound W lim σ dest H w run (.slice base n cap) H := fun b' n' c' hs' hle => by
      refine OpSound.plain hinv (v' := s') ?_ hs
      subst hs'
      rw [hrun, run_append_nothing w st xt ty e i hu hi b' n' c' hle x' hsrc]
      rfl
    cases base with
    | none => obtain ⟨_, _, hs'⟩ := hs.nilslice_left; exact fin _ _ _ hs' (Nat.le_refl _)
    | some a =>
      obtain ⟨_, L, hL, ⟨_, hs'⟩ | ⟨_, _, c', hn, _, hs'⟩ | ⟨_, _, _, hs'⟩⟩ := hs.slice_left
      · exact fin _ _ _ hs' (by omega)
      · exact fin _ _ _ hs' hn
      · exact fin _ _ _ hs' (Nat.le_refl _)
  rename_i hm0
  have hmpos : 0 < m := by omega
  -- a new row: whatever the old one was
  have grow : ∀ (H0 : Heap) (base' : Option Addr) (n' c' : Nat) (old olds : List Value) (k : Nat) (K : Heap), Inv W lim σ H0 w → H0.length = H.length → s' = .slice base' n' c' → n' = n → LRel σ old olds → (∀ y ∈ olds, y.oneCell' = true) → old.length = n * i.size →
      (Builtin.firstCells i.size n' (.slice base' n' c')).run P w.drew = .ok olds.toArray w.drew → c' < n + m → place dest (.cells false (old ++ new)) H0 = (k, K) →
      OpSound W lim σ dest H w run (.slice (some ⟨k, 0, none⟩) (n + m) (loose i.size)) K := by
    intro H0 base' n' c' old olds k K hI hlen hs' hn' hor holdone hol hfirst hlt hp
    subst hs' hn'
    have hg := run_append_grow_src w st xt ty e i zv hu hi hzv base' n' c' olds hfirst x' m news hsrc hlt (by omega) (growslice_fits hlt hbytes)
    have hge := grownCap_ge w (n' + m) c' e
    have hd' : ∀ d, dest = some d → d < H0.length ∧ σ d = none := fun d e => by rw [hlen]; exact hd d e
    have hsize : (((olds ++ news).toArray ++ Builtin.zeroCells zv.cells (grownCap w (n' + m) c' e - (n' + m))).size) = grownCap w (n' + m) c' e * i.size := by
      simp only [Array.size_append, size_zeroCells, hzs, List.size_toArray, List.length_append, ← hor.1, ← hrel.1, hol, hnl]
      rw [← Nat.add_mul, ← Nat.add_mul]; congr 1; omega
    obtain ⟨q1, q2⟩ := hI.drew.alloc (lim := lim) (el := e) hp hd' (cs := (olds ++ news).toArray ++ Builtin.zeroCells zv.cells (grownCap w (n' + m) c' e - (n' + m))) (fun j y hj => by
      obtain ⟨y', h1, h2⟩ := (hor.append hrel).get hj
      refine ⟨y', ?_, h2, ?_⟩
      · rw [Array.getElem?_append_left (by have := (List.getElem?_eq_some_iff.1 h1).1; simpa using this)]
        simpa using h1
      · rcases List.mem_append.1 (List.mem_of_getElem? h1) with h | h
        · exact holdone _ h
        · exact hone _ h) (by rw [hsize]; simp only [List.length_append, hol, hnl, ← Nat.add_mul]; exact Nat.mul_le_mul_right _ hge)
    obtain ⟨g1, g2, g3, g4, g5, g6, g7⟩ := place_get hp fun d e => (hd' d e).1
    refine ⟨_, _, _, _, by rw [hrun, hg]; rfl, rfl, ?_, q1, Stp.drew.trans (Stp.alloc hI.drew.fresh _), Sig.le_put q2, fun j hj => ?_, by omega, fun hdn => ?_⟩
    · have hrm : 0 + grownCap w (n' + m) c' e * i.size ≤ ((olds ++ news).toArray ++ Builtin.zeroCells zv.cells (grownCap w (n' + m) c' e - (n' + m))).size := by omega
      have := VRel.lslice (σ := σ.put k ⟨w.drew.heap.size, 0, _⟩) (i := k) (k := 0) (n := n' + m) (e := i.size) (c := grownCap w (n' + m) c' e) Sig.put_same hge hrm
      simpa [Nat.add_assoc] using this
    · by_cases e : j = k
      · subst e
        cases dest with
        | none => exact .inr ⟨rfl, by rw [g5 rfl, hlen]; exact Nat.le_refl _⟩
        | some d => exact .inl (by rw [(g6 d rfl).1])
      · simp [Sig.put, e] at hj
    · cases dest with
      | none => exact absurd rfl hdn
      | some d => rw [(g6 d rfl).2, hlen]
  cases base with
  | none =>
    simp only at h
    split at h
    case isFalse => cases h
    rename_i h0
    obtain ⟨rfl, rfl⟩ := h0
    obtain ⟨_, _, hs'⟩ := hs.nilslice_left
    cases hp : place dest (.cells false new) H with
    | mk k K =>
    rw [hp] at h
    cases h
    have := grow H none 0 0 [] [] k K hinv rfl hs' rfl LRel.nil (fun y hy => by simp at hy) (by simp) (run_firstCells_none w.drew i.size 0 0 0) (by omega) (by simpa using hp)
    simpa using this
  | some a =>
    simp only at h
    split at h
    · cases h
    rename_i old hold
    obtain ⟨hsp, L, hL, hc⟩ := hs.slice_left
    have hol : old.length = n * i.size := by
      unfold AM.loadCells at hold
      split at hold
      · split at hold
        · cases hold; simp; omega
        · cases hold
      · cases hold
    obtain ⟨olds, ho1, ho2, ho3, ho4⟩ := hinv.loadCells hL hold
    have hfirst : ∀ c', (Builtin.firstCells i.size n (.slice (some ⟨L.blk, L.base + a.off, none⟩) n c')).run P w.drew = .ok olds.toArray w.drew := fun c' =>
      run_firstCells_some w.drew i.size n _ n c' olds ho2 fun j u hu => by rw [Addr.add_mid]; simpa using ho4 j u hu
    have empty : n = 0 → old = [] := fun h0 => by subst h0; simpa using hol
    split at h
    · -- loose
      rename_i hcap
      split at h
      case h_2 => cases h
      rename_i cb hb
      split at h
      case isFalse => cases h
      rename_i hlim
      cases hp : place dest (.cells false (old ++ new)) (H.set a.block .dead) with
      | mk k K =>
      rw [hp] at h
      cases h
      rcases hc with ⟨hlt, _⟩ | ⟨e', he, c', hn, hr, hs'⟩ | ⟨a', he, hn, hs'⟩
      · rw [hcap] at hlt; unfold loose at hlt; omega
      · have hes2 : e' = i.size := by rw [hcap] at he; unfold loose at he; omega
        subst hes2
        by_cases hroom : n + m ≤ c'
        · -- there is room
          have hrm : a.off + old.length + new.length ≤ L.room := by
            rw [hol, hnl, Nat.add_assoc, ← Nat.add_mul]
            have : (n + m) * i.size ≤ c' * i.size := Nat.mul_le_mul_right _ hroom
            omega
          obtain ⟨w', q1, q2, q3, q4⟩ := hinv.appendRoom (P := P) hb hL hlim (by rw [hol]; exact hold) hrel hone hrm hp hd
          obtain ⟨cs, el, fz, hh, hcc, ho⟩ := hinv.cells hb hL
          obtain ⟨hoo1, hoo2, hoo3⟩ := ho rfl
          have hcell : ∀ j, j < news.length → (w.cell? ⟨L.blk, L.base + a.off + n * i.size + j, none⟩).isSome = true := fun j hj => by
            rw [cell_of_heap hh (Array.getElem?_eq_getElem (by have := hrel.1; omega))]; rfl
          have hfz : ∀ j, j < news.length → w.frozen? ⟨L.blk, L.base + a.off + n * i.size + j, none⟩ = false := fun j hj => by
            simp only [World.frozen?, hh]
            have := hoo3 (L.base + a.off + n * i.size + j) (by have := hrel.1; omega)
            obtain ⟨f1, f2⟩ := fz
            simp at this ⊢
            exact this
          have hrs := run_append_room_src w st xt ty e i hu hi L.blk (L.base + a.off) n c' x' m news hsrc hroom hcell hfz
          have hst := run_storeCells_cells (P := P) L.blk (L.base + a.off + n * i.size) news 0 w (by simpa using hcell) (by simpa using hfz) hone
          rw [hol] at q1
          rw [Nat.add_zero] at hst
          have hw' : w' = w.setCells L.blk (L.base + a.off + n * i.size) news := by
            have := q1.symm.trans hst
            simpa using this
          obtain ⟨g1, g2, g3, g4, g5, g6, g7⟩ := place_get hp fun d e => by simpa using (hd d e).1
          subst hs'
          refine ⟨_, w', _, _, by rw [hrun, hrs, hw']; rfl, rfl, ?_, q2, q3, Sig.le_put q4, fun j hj => ?_, by simpa using g3, fun hdn => ?_⟩
          · have hrm2 : 0 + c' * i.size ≤ L.room - a.off := by omega
            have := VRel.lslice (σ := σ.put k ⟨L.blk, L.base + a.off, L.room - a.off⟩) (i := k) (k := 0) (n := n + m) (e := i.size) (c := c') Sig.put_same hroom hrm2
            simpa using this
          · by_cases e : j = k
            · subst e
              cases dest with
              | none => exact .inr ⟨rfl, by rw [g5 rfl]; simp⟩
              | some d => exact .inl (by rw [(g6 d rfl).1])
            · simp [Sig.put, e] at hj
          · cases dest with
            | none => exact absurd rfl hdn
            | some d => rw [(g6 d rfl).2]; simp
        · exact grow (H.set a.block .dead) _ n c' old olds k K (hinv.killAny _) (by simp) hs' rfl ho1 ho3 hol (hfirst c') (by omega) hp
      · subst hn
        have := empty rfl
        subst this
        have ho0 : olds = [] := by have := ho1.1; simpa using this.symm
        subst ho0
        exact grow (H.set a.block .dead) (some a') 0 0 [] [] k K (hinv.killAny _) (by simp) hs' rfl LRel.nil (fun y hy => by simp at hy) (by simp) (run_firstCells_some w.drew i.size 0 _ 0 0 [] (by simp) (fun j u hu => by simp at hu)) (by omega) hp
    · split at h
      case isFalse => cases h
      rename_i hcap hc62
      split at h
      · -- within a known capacity
        rename_i hroom
        split at h
        case h_2 => cases h
        rename_i H2 hst
        cases h
        rcases hc with ⟨_, hs'⟩ | ⟨e', he, _⟩ | ⟨a', he, hn, hs'⟩
        · rw [add_off a _ hsp] at hst
          obtain ⟨w', q1, q2, q3, q4⟩ := hinv.store (P := P) (p := ⟨a.block, a.off + n * i.size, none⟩) hL hst hrel hone
          unfold storeAt at hst
          split at hst
          case h_2 => cases hst
          rename_i cb hb
          split at hst
          case isFalse => cases hst
          rename_i hcl
          obtain ⟨cs, el, fz, hh, hcc, ho⟩ := hinv.cells hb hL
          obtain ⟨hoo1, hoo2, hoo3⟩ := ho rfl
          simp only at hcl
          have hcell : ∀ j, j < news.length → (w.cell? ⟨L.blk, L.base + a.off + n * i.size + j, none⟩).isSome = true := fun j hj => by
            rw [cell_of_heap hh (Array.getElem?_eq_getElem (by have := hrel.1; omega))]; rfl
          have hfz : ∀ j, j < news.length → w.frozen? ⟨L.blk, L.base + a.off + n * i.size + j, none⟩ = false := fun j hj => by
            simp only [World.frozen?, hh]
            have := hoo3 (L.base + a.off + n * i.size + j) (by have := hrel.1; omega)
            obtain ⟨f1, f2⟩ := fz
            simp at this ⊢
            exact this
          have hrs := run_append_room_src w st xt ty e i hu hi L.blk (L.base + a.off) n cap x' m news hsrc hroom hcell hfz
          have hst2 := run_storeCells_cells (P := P) L.blk (L.base + a.off + n * i.size) news 0 w (by simpa using hcell) (by simpa using hfz) hone
          rw [Nat.add_zero] at hst2
          rw [show L.base + (a.off + n * i.size) = L.base + a.off + n * i.size by omega] at q1
          have hw' : w' = w.setCells L.blk (L.base + a.off + n * i.size) news := by
            have := q1.symm.trans hst2
            simpa using this
          subst hs'
          exact ⟨_, w', σ, _, by rw [hrun, hrs, hw']; rfl, rfl, VRel.slice' hsp hL hc62, q2, q3, Sig.le_refl σ, fun j hj => absurd rfl hj, by omega, fun _ => q4⟩
        · exact absurd he (by unfold loose at *; omega)
        · exact absurd he (by unfold loose at *; omega)
      · rename_i hroom
        cases hp : place dest (.cells false (old ++ new)) H with
        | mk k K =>
        rw [hp] at h
        cases h
        rcases hc with ⟨_, hs'⟩ | ⟨e', he, _⟩ | ⟨a', he, hn, hs'⟩
        · exact grow H _ n cap old olds k K hinv rfl hs' rfl ho1 ho3 hol (hfirst cap) (by omega) hp
        · exact absurd he (by unfold loose at *; omega)
        · subst hn
          have := empty rfl
          subst this
          exact grow H (some a') 0 0 [] [] k K hinv rfl hs' rfl LRel.nil (fun y hy => by simp at hy) (by simp) (run_firstCells_some w.drew i.size 0 _ 0 0 [] (by simp) (fun j u hu => by simp at hu)) (by omega) hp
end
end Go.AM
