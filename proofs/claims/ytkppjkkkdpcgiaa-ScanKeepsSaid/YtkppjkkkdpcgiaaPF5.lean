/-
  Joined texts, 5 of 9. A part of the claim that the last text states.
-/
import Derived.Test.YtkppjkkkdpcgiaaPF4
namespace Go.Scan
set_option maxRecDepth 100000
set_option linter.unusedVariables false
set_option linter.unusedSimpArgs false
theorem lastK_some {e x : Ev} {kept : List Ev} (h : lastK e kept = some x) : x ∈ kept ∧ sight x = sight e := by
  unfold lastK at h
  exact ⟨List.mem_of_find?_eq_some h, by simpa using List.find?_some h⟩
theorem lastK_none {e : Ev} {kept : List Ev} (h : lastK e kept = none) : ∀ x ∈ kept, sight x ≠ sight e := by
  unfold lastK at h
  rw [List.find?_eq_none] at h
  intro x hx; simpa using h x hx
def ApartL (kept : List Ev) : Prop := kept.Pairwise fun x y => sight x = sight y → x.time - y.time > 10
theorem lastK_top {e x : Ev} : ∀ {kept : List Ev}, ApartL kept → lastK e kept = some x → ∀ y ∈ kept, sight y = sight e → y.time ≤ x.time
  | [], _, h => by cases h
  | k :: l, ha, h => by
    obtain ⟨h1, h2⟩ := List.pairwise_cons.mp ha
    unfold lastK at h
    intro y hy hs
    by_cases hk : sight k = sight e
    · rw [List.find?_cons_of_pos (by simpa using hk)] at h
      cases h
      rcases List.mem_cons.mp hy with rfl | hy
      · exact Int.le_refl _
      · have := h1 y hy (hk.trans hs.symm); omega
    · rw [List.find?_cons_of_neg (by simpa using hk)] at h
      rcases List.mem_cons.mp hy with rfl | hy
      · exact absurd hs hk
      · exact lastK_top h2 h y hy hs
theorem twiceB_true {e : Ev} {kept : List Ev} : twiceB e kept = true ↔ ∃ x, lastK e kept = some x ∧ e.time - x.time ≤ 10 := by
  unfold twiceB
  cases h : lastK e kept with
  | none => simp
  | some x => simp
theorem siftGo_perm : ∀ (l kept twice : List Ev), ((siftGo kept twice l).1 ++ (siftGo kept twice l).2).Perm (kept ++ twice ++ l)
  | [], kept, twice => by
    unfold siftGo
    rw [List.append_nil]
    exact (List.reverse_perm _).append (List.reverse_perm _)
  | e :: l, kept, twice => by
    unfold siftGo
    split
    · refine (siftGo_perm l _ _).trans ?_
      rw [List.append_assoc, List.append_assoc, List.cons_append]
      exact (List.perm_middle).symm.append_left kept
    · refine (siftGo_perm l _ _).trans ?_
      rw [List.cons_append, List.cons_append]
      exact List.perm_middle.symm
theorem siftGo_sub : ∀ (l kept twice : List Ev), ∃ K T, siftGo kept twice l = (kept.reverse ++ K, twice.reverse ++ T) ∧ K.Sublist l ∧ T.Sublist l
  | [], kept, twice => ⟨[], [], by unfold siftGo; simp, .refl _, .refl _⟩
  | e :: l, kept, twice => by
    unfold siftGo
    split
    · obtain ⟨K, T, h1, h2, h3⟩ := siftGo_sub l kept (e :: twice)
      exact ⟨K, e :: T, by rw [h1]; simp, h2.trans (List.sublist_cons_self _ _), h3.cons_cons e⟩
    · obtain ⟨K, T, h1, h2, h3⟩ := siftGo_sub l (e :: kept) twice
      exact ⟨e :: K, T, by rw [h1]; simp, h2.cons_cons e, h3.trans (List.sublist_cons_self _ _)⟩
def Rising (l : List Ev) : Prop := l.Pairwise fun x y => x.time ≤ y.time
theorem ordered_rising {l : List Ev} (h : Ordered keysE l) : Rising l := h.imp fun {a b} q => by
  unfold keysE lexC at q
  by_cases h1 : a.time < b.time
  · omega
  rw [if_neg h1] at q
  by_cases h2 : b.time < a.time
  · rw [if_pos h2] at q; omega
  · omega
theorem siftGo_ok : ∀ (l kept twice : List Ev), ApartL kept → (∀ e ∈ l, ∀ x ∈ kept, x.time ≤ e.time) → Rising l → (∀ x ∈ twice, ∃ y ∈ kept, sight x = sight y ∧ x.time ≥ y.time ∧ x.time - y.time ≤ 10) →
    (ApartL (siftGo kept twice l).1.reverse) ∧ ∀ x ∈ (siftGo kept twice l).2, ∃ y ∈ (siftGo kept twice l).1, sight x = sight y ∧ x.time ≥ y.time ∧ x.time - y.time ≤ 10
  | [], kept, twice, h1, _, _, h4 => by
    unfold siftGo
    refine ⟨by simpa using h1, fun x hx => ?_⟩
    obtain ⟨y, hy, q⟩ := h4 x (by simpa using hx)
    exact ⟨y, by simpa using hy, q⟩
  | e :: l, kept, twice, h1, h2, h3, h4 => by
    obtain ⟨r1, r2⟩ := List.pairwise_cons.mp h3
    unfold siftGo
    split
    · rename_i ht
      obtain ⟨x, hx, hd⟩ := twiceB_true.mp ht
      obtain ⟨m1, m2⟩ := lastK_some hx
      refine siftGo_ok l kept (e :: twice) h1 (fun a ha => h2 a (List.mem_cons_of_mem _ ha)) r2 fun y hy => ?_
      rcases List.mem_cons.mp hy with rfl | hy
      · exact ⟨x, m1, m2.symm, h2 y List.mem_cons_self x m1, hd⟩
      · exact h4 y hy
    · rename_i ht
      refine siftGo_ok l (e :: kept) twice (List.pairwise_cons.mpr ⟨fun y hy hs => ?_, h1⟩) (fun a ha x hx => ?_) r2 fun y hy => ?_
      · cases hk : lastK e kept with
        | none => exact absurd hs.symm (lastK_none hk y hy)
        | some x =>
          have hn : ¬ e.time - x.time ≤ 10 := fun hc => ht (twiceB_true.mpr ⟨x, hk, hc⟩)
          have := lastK_top h1 hk y hy hs.symm
          omega
      · rcases List.mem_cons.mp hx with rfl | hx
        · exact r1 a ha
        · exact h2 a (List.mem_cons_of_mem _ ha) x hx
      · obtain ⟨z, hz, q⟩ := h4 y hy
        exact ⟨z, List.mem_cons_of_mem _ hz, q⟩
theorem events_sorted (M : List Mk) (S : List Ev) : Ordered keysE (eventsN M S) := sortB_sorted keysE_len _
theorem events_mem {M : List Mk} {S : List Ev} {x : Ev} : x ∈ eventsN M S ↔ ∃ s ∈ S, { s with time := timeN M s } = x := by
  unfold eventsN
  rw [(sortB_perm keysE _).mem_iff, List.mem_map]
theorem drift_in {D w k : Int} (hw : 0 < w) (h1 : 0 ≤ k) (h2 : k ≤ w) : min 0 D ≤ D * k / w ∧ D * k / w ≤ max 0 D := by
  rcases (by omega : D < 0 ∨ 0 ≤ D) with h | h
  · rw [Int.min_eq_right (by omega), Int.max_eq_left (by omega)]
    constructor
    · exact Int.le_ediv_of_mul_le hw (Int.mul_le_mul_of_nonpos_left (by omega) h2)
    · refine Int.ediv_le_of_le_mul hw ?_
      rw [Int.zero_mul]
      exact Int.mul_nonpos_of_nonpos_of_nonneg (by omega) h1
  · rw [Int.min_eq_left (by omega), Int.max_eq_right (by omega)]
    exact ⟨Int.ediv_nonneg (Int.mul_nonneg h h1) (by omega), Int.ediv_le_of_le_mul hw (Int.mul_le_mul_of_nonneg_left h2 h)⟩
def AtLt (l : List Mk) : Prop := l.Pairwise fun a b => a.at' < b.at'
theorem ofN_lt {M : List Mk} {sc : Int} (h : M.Pairwise ltM) : AtLt (ofN M sc) := by
  unfold AtLt ofN
  have h2 := h.filter (fun m => m.scanner == sc)
  refine List.Pairwise.imp_of_mem ?_ h2
  intro a b ha hb q
  have e1 : a.scanner = sc := by simpa using (List.mem_filter.mp ha).2
  have e2 : b.scanner = sc := by simpa using (List.mem_filter.mp hb).2
  unfold ltM at q; omega
theorem offGo_bound {t B : Int} : ∀ (l : List Mk) (last : Mk), AtLt l → (∀ m ∈ l, -B ≤ m.off ∧ m.off ≤ B) → -B ≤ last.off → last.off ≤ B → (∀ m ∈ l, last = zeroM ∨ last.at' < m.at') → (last = zeroM ∨ last.at' < t) → -B ≤ offGo t last l ∧ offGo t last l ≤ B
  | [], last, _, _, h1, h2, _, _ => ⟨h1, h2⟩
  | m :: l, last, hl, hb, h1, h2, h3, h4 => by
    obtain ⟨l1, l2⟩ := List.pairwise_cons.mp hl
    have hm := hb m List.mem_cons_self
    unfold offGo
    split
    · rename_i ht
      exact offGo_bound l m l2 (fun x hx => hb x (List.mem_cons_of_mem _ hx)) hm.1 hm.2 (fun x hx => .inr (l1 x hx)) (.inr ht)
    split
    · exact hm
    · rename_i g1 g2
      have e1 := h4.resolve_left g2
      have := drift_in (D := m.off - last.off) (w := m.at' - last.at') (k := t - last.at') (by omega) (by omega) (by omega)
      omega
structure AtOnce (S : List Ev) (c : Int → Int) (t : Ev → Int) : Prop where
  at_ : ∀ s ∈ S, s.at' = t s - c s.scanner
  late : ∀ s ∈ S, t s ≤ s.seen
  once : ∀ s ∈ S, ∃ x ∈ S, keyM x = keyM s ∧ x.seen = t x
def insR (m : Mk) : List Mk → List Mk
  | [] => [m]
  | y :: l => if ltM y m then y :: insR m l else if sameM y m then (if m.off < y.off then { y with off := m.off } else y) :: l else m :: y :: l
theorem insR_lt {m : Mk} : ∀ {l : List Mk}, l.Pairwise ltM → (insR m l).Pairwise ltM ∧ ∀ x ∈ insR m l, sameM x m ∨ ∃ y ∈ l, sameM x y
  | [], _ => by
    unfold insR
    exact ⟨List.pairwise_singleton _ _, fun x hx => by rw [List.mem_singleton] at hx; subst hx; exact .inl ⟨rfl, rfl⟩⟩
  | y :: l, h => by
    obtain ⟨h1, h2⟩ := List.pairwise_cons.mp h
    obtain ⟨i1, i2⟩ := insR_lt (m := m) h2
    unfold insR
    split
    · rename_i hlt
      refine ⟨List.pairwise_cons.mpr ⟨fun x hx => ?_, i1⟩, fun x hx => ?_⟩
      · rcases i2 x hx with q | ⟨z, hz, q⟩
        · exact ltM_same hlt q
        · exact ltM_same (h1 z hz) q
      · rcases List.mem_cons.mp hx with rfl | hx
        · exact .inr ⟨x, List.mem_cons_self, rfl, rfl⟩
        · rcases i2 x hx with q | ⟨z, hz, q⟩
          · exact .inl q
          · exact .inr ⟨z, List.mem_cons_of_mem _ hz, q⟩
    · split
      · rename_i hn hs
        have hy : ∀ z, ltM y z → ltM (if m.off < y.off then { y with off := m.off } else y) z := by
          intro z hz; split
          · exact hz
          · exact hz
        have hy2 : sameM (if m.off < y.off then { y with off := m.off } else y) y := by split <;> exact ⟨rfl, rfl⟩
        refine ⟨List.pairwise_cons.mpr ⟨fun x hx => hy x (h1 x hx), h2⟩, fun x hx => ?_⟩
        rcases List.mem_cons.mp hx with rfl | hx
        · exact .inr ⟨y, List.mem_cons_self, hy2⟩
        · exact .inr ⟨x, List.mem_cons_of_mem _ hx, rfl, rfl⟩
      · rename_i hn hs
        have hmy : ltM m y := by unfold ltM sameM at *; omega
        refine ⟨List.pairwise_cons.mpr ⟨fun x hx => ?_, h⟩, fun x hx => ?_⟩
        · rcases List.mem_cons.mp hx with rfl | hx
          · exact hmy
          · exact ltM_trans hmy (h1 x hx)
        · rcases List.mem_cons.mp hx with rfl | hx
          · exact .inl ⟨rfl, rfl⟩
          · exact .inr ⟨x, hx, rfl, rfl⟩
structure RefOf (V : List Mk) (out : List Mk) : Prop where
  lt : out.Pairwise ltM
  from' : ∀ m ∈ out, m ∈ V
  all : ∀ m ∈ V, ∃ y ∈ out, sameM m y ∧ y.off ≤ m.off
theorem insR_of {m : Mk} : ∀ {l : List Mk}, (∀ x ∈ insR m l, x = m ∨ x ∈ l) ∧ ∀ x, x = m ∨ x ∈ l → ∃ y ∈ insR m l, sameM x y ∧ y.off ≤ x.off
  | [] => by
    unfold insR
    refine ⟨fun x hx => .inl (by simpa using hx), fun x hx => ?_⟩
    rcases hx with rfl | hx
    · exact ⟨x, by simp, ⟨rfl, rfl⟩, Int.le_refl _⟩
    · cases hx
  | y :: l => by
    obtain ⟨i1, i2⟩ := insR_of (m := m) (l := l)
    unfold insR
    split
    · refine ⟨fun x hx => ?_, fun x hx => ?_⟩
      · rcases List.mem_cons.mp hx with rfl | hx
        · exact .inr List.mem_cons_self
        · rcases i1 x hx with q | q
          · exact .inl q
          · exact .inr (List.mem_cons_of_mem _ q)
      · have out : x = m ∨ x ∈ l → ∃ z ∈ y :: insR m l, sameM x z ∧ z.off ≤ x.off := fun q => by
          obtain ⟨z, hz, w⟩ := i2 x q
          exact ⟨z, List.mem_cons_of_mem _ hz, w⟩
        rcases hx with rfl | hx
        · exact out (.inl rfl)
        · rcases List.mem_cons.mp hx with rfl | hx
          · exact ⟨x, List.mem_cons_self, ⟨rfl, rfl⟩, Int.le_refl _⟩
          · exact out (.inr hx)
    · split
      · rename_i hn hs
        refine ⟨fun x hx => ?_, fun x hx => ?_⟩
        · rcases List.mem_cons.mp hx with h | hx
          · split at h
            · left
              subst h
              obtain ⟨a, b, c⟩ := m
              unfold sameM at hs
              simp only at hs ⊢
              rw [hs.1, hs.2]
            · right; rw [h]; exact List.mem_cons_self
          · exact .inr (List.mem_cons_of_mem _ hx)
        · have hd : sameM m (if m.off < y.off then { y with off := m.off } else y) ∧ (if m.off < y.off then { y with off := m.off } else y).off ≤ m.off ∧ sameM y (if m.off < y.off then { y with off := m.off } else y) ∧ (if m.off < y.off then { y with off := m.off } else y).off ≤ y.off := by
            unfold sameM at hs ⊢
            split
            · rename_i hq; exact ⟨⟨hs.1.symm, hs.2.symm⟩, Int.le_refl _, ⟨rfl, rfl⟩, Int.le_of_lt hq⟩
            · exact ⟨⟨hs.1.symm, hs.2.symm⟩, by omega, ⟨rfl, rfl⟩, Int.le_refl _⟩
          rcases hx with rfl | hx
          · exact ⟨_, List.mem_cons_self, hd.1, hd.2.1⟩
          · rcases List.mem_cons.mp hx with rfl | hx
            · exact ⟨_, List.mem_cons_self, hd.2.2.1, hd.2.2.2⟩
            · exact ⟨x, List.mem_cons_of_mem _ hx, ⟨rfl, rfl⟩, Int.le_refl _⟩
      · refine ⟨fun x hx => ?_, fun x hx => ?_⟩
        · rcases List.mem_cons.mp hx with rfl | hx
          · exact .inl rfl
          · exact .inr hx
        · rcases hx with rfl | hx
          · exact ⟨x, List.mem_cons_self, ⟨rfl, rfl⟩, Int.le_refl _⟩
          · exact ⟨x, List.mem_cons_of_mem _ hx, ⟨rfl, rfl⟩, Int.le_refl _⟩
theorem RefOf.add {V out : List Mk} (h : RefOf V out) (m : Mk) : RefOf (V ++ [m]) (insR m out) := by
  obtain ⟨i1, i2⟩ := insR_of (m := m) (l := out)
  refine ⟨(insR_lt h.lt).1, fun x hx => ?_, fun x hx => ?_⟩
  · rcases i1 x hx with rfl | q
    · simp
    · exact List.mem_append_left _ (h.from' x q)
  · rcases List.mem_append.mp hx with hx | hx
    · obtain ⟨y, hy, q1, q2⟩ := h.all x hx
      obtain ⟨z, hz, q3, q4⟩ := i2 y (.inr hy)
      exact ⟨z, hz, by unfold sameM at *; omega, by omega⟩
    · rw [List.mem_singleton] at hx; subst hx
      exact i2 x (.inl rfl)
def befE (a b : Ev) : Prop := lexC (keysE a) (keysE b) < 0
instance (a b : Ev) : Decidable (befE a b) := by unfold befE; infer_instance
def bare (e : Ev) : Ev := { e with time := 0 }
theorem time_in {M : List Mk} {s : Ev} (h : FineE s) : 0 ≤ timeN M s ∧ timeN M s ≤ s.seen := by
  unfold FineE at h; unfold timeN; omega
theorem events_perm (M : List Mk) (S : List Ev) : ((eventsN M S).map bare).Perm (S.map bare) := by
  have h := (sortB_perm keysE (S.map fun s => { s with time := timeN M s })).map bare
  rw [List.map_map] at h
  exact h
theorem sift_perm (S : List Ev) : (((siftN S).1 ++ (siftN S).2).map bare).Perm (S.map bare) := by
  unfold siftN
  have h := siftGo_perm (eventsN (gatherN S) S) [] []
  rw [List.append_nil, List.nil_append] at h
  exact (h.map bare).trans (events_perm _ S)
theorem sift_len (S : List Ev) : (siftN S).1.length + (siftN S).2.length = S.length := by
  have := (sift_perm S).length_eq
  simpa using this
theorem sift_sub (S : List Ev) : (siftN S).1.Sublist (eventsN (gatherN S) S) ∧ (siftN S).2.Sublist (eventsN (gatherN S) S) := by
  obtain ⟨K, T, h1, h2, h3⟩ := siftGo_sub (eventsN (gatherN S) S) [] []
  unfold siftN
  rw [h1]
  exact ⟨by simpa using h2, by simpa using h3⟩
theorem sift_rising (S : List Ev) : Rising (siftN S).1 ∧ Rising (siftN S).2 := by
  have h := ordered_rising (events_sorted (gatherN S) S)
  exact ⟨h.sublist (sift_sub S).1, h.sublist (sift_sub S).2⟩
theorem sift_mem {S : List Ev} {x : Ev} (h : x ∈ (siftN S).1 ∨ x ∈ (siftN S).2) : ∃ s ∈ S, { s with time := timeN (gatherN S) s } = x := by
  rcases h with h | h
  · exact events_mem.mp ((sift_sub S).1.mem h)
  · exact events_mem.mp ((sift_sub S).2.mem h)
theorem sift_time {S : List Ev} (hS : ∀ s ∈ S, FineE s) {x : Ev} (h : x ∈ (siftN S).1 ∨ x ∈ (siftN S).2) : 0 ≤ x.time ∧ x.time ≤ x.seen := by
  obtain ⟨s, hs, rfl⟩ := sift_mem h
  exact time_in (hS s hs)
theorem sift_apart (S : List Ev) : ((siftN S).1.Pairwise fun x y => sight y = sight x → y.time - x.time > 10) ∧ ∀ x ∈ (siftN S).2, ∃ y ∈ (siftN S).1, sight x = sight y ∧ x.time ≥ y.time ∧ x.time - y.time ≤ 10 := by
  obtain ⟨h1, h2⟩ := siftGo_ok (eventsN (gatherN S) S) [] [] List.Pairwise.nil (fun e _ x hx => (List.not_mem_nil hx).elim) (ordered_rising (events_sorted _ S)) (fun x hx => (List.not_mem_nil hx).elim)
  unfold siftN
  refine ⟨?_, h2⟩
  unfold ApartL at h1
  rw [List.pairwise_reverse] at h1
  exact h1
theorem events_len (M : List Mk) (S : List Ev) : (eventsN M S).length = S.length := by
  have := (events_perm M S).length_eq
  simpa using this
structure Two (at' w f o : Int) : Prop where
  a1 : 40000 ≤ at'
  a2 : at' ≤ 105535
  w1 : 1 ≤ w
  w2 : w ≤ 65536
  f1 : -32768 ≤ f
  f2 : f ≤ 32767
  o1 : -32768 ≤ o
  o2 : o ≤ 32767
  dr : -w ≤ o - f
end Go.Scan

