/-
  The abstract machine, part 20: whole regions, those that draw their order among them.
-/
import Derived.Test.YtlmoijifgbkapaaAm19
set_option linter.unusedVariables false
set_option linter.unusedSimpArgs false
namespace Go.AM

theorem mapM_get {α β : Type} {f : α → Option β} : ∀ {l : List α} {r : List β}, l.mapM f = some r → r.length = l.length ∧ ∀ (j : Nat) x y, l[j]? = some x → r[j]? = some y → f x = some y
  | [], r, h => by simp at h; subst h; exact ⟨rfl, fun j x y hx => by simp at hx⟩
  | a :: l, r, h => by
    rw [List.mapM_cons] at h
    obtain ⟨b, hb, h⟩ := opt_bind h
    obtain ⟨r', hr', h⟩ := opt_bind h
    cases h
    obtain ⟨h1, h2⟩ := mapM_get hr'
    refine ⟨by simp [h1], fun j x y hx hy => ?_⟩
    cases j with
    | zero => simp at hx hy; subst hx hy; exact hb
    | succ j => exact h2 j x y (by simpa using hx) (by simpa using hy)

section
variable {P : Program} {pureF : FuncId → Bool} {C : CallF} {W : Nat → Prop} {lim : Nat} {σ : Sig} {H H' : Heap} {w : World}

/-- What a region has come to. -/
def RegPost (W : Nat → Prop) (lim : Nat) (σ : Sig) (N : Nat) (fr' : Nat → Value) (H H' : Heap) (w : World) : Exit → Act → World → Prop := fun e a' w' =>
  e = .normal ∧ ∃ σ', State W lim σ' N fr' H' a' w' ∧ Stp W w w' ∧ Sig.le σ σ' ∧ Grow lim H H' ∧ (∀ j, σ' j ≠ σ j → H.length ≤ j) ∧ H.length ≤ H'.length

theorem plain_region (hC : CallOk P C) {ops : Array Oper} {N : Nat} {Q : Exit → Act → World → Prop} (fr' : Nat → Value) (H' : Heap) (W : Nat → Prop) (lim : Nat) (σ0 : Sig) (H0 : Heap) (w0 : World)
    (hQ : ∀ a w σ, State W lim σ N fr' H' a w → Stp W w0 w → Sig.le σ0 σ → Grow lim H0 H' → (∀ j, σ j ≠ σ0 j → H0.length ≤ j) → H0.length ≤ H'.length → Q .normal a w) {l : List AIns} (hl : ops.toList.mapM (trIns P pureF false ops) = some l) :
    ∀ (m s : Nat) (fr : Nat → Value) (H : Heap) (a : Act) (w : World) (σ : Sig), s + m = ops.size → State W lim σ N fr H a w → Stp W w0 w → Sig.le σ0 σ → Grow lim H0 H → (∀ j, σ j ≠ σ0 j → H0.length ≤ j) → H0.length ≤ H.length →
      dOps C N lim none (l.drop s) fr H = some (fr', H') → wpOps P ops Q (List.range' s m) a w
  | 0, s, fr, H, a, w, σ, hs, hst, h1, h2, h3, h4, h5, hx => by
    have hlen := (mapM_get hl).1
    have : l.drop s = [] := by
      apply List.drop_eq_nil_of_le
      rw [hlen]; simp; omega
    rw [this] at hx
    simp [dOps] at hx
    obtain ⟨rfl, rfl⟩ := hx
    simp only [List.range'_zero, wpOps]
    exact hQ a w σ hst h1 h2 h3 h4 h5
  | m + 1, s, fr, H, a, w, σ, hs, hst, h1, h2, h3, h4, h5, hx => by
    obtain ⟨hlen, hget⟩ := mapM_get hl
    have hsl : s < l.length := by rw [hlen]; simp; omega
    have hso : s < ops.size := by omega
    rw [List.drop_eq_getElem_cons hsl] at hx
    obtain ⟨fr1, H1, hx1, hx2⟩ := dOps_cons hx
    have htr := hget s ops[s] l[s] (by simp [hso]) (by simp [hsl])
    rw [List.range'_succ, wpOps_cons]
    refine ins_wp hC (by simp [hso]) htr hst hx1 fun σ' a' w' q1 q2 q3 q4 q5 q6 => ?_
    exact plain_region hC fr' H' W lim σ0 H0 w0 hQ hl m (s + 1) fr1 H1 a' w' σ' (by omega) q1 (h1.trans q2) (Sig.le_trans h2 q3) (h3.trans q4)
      (fun j hj => by
        apply Decidable.byContradiction
        intro hc
        have e1 : σ j = σ0 j := Classical.byContradiction fun e => hc (h4 j e)
        have := q5 j (fun e => hj (e.trans e1))
        omega) (by omega) hx2

/-! ### Regions that draw their order -/
theorem waits_listed {ops : Array Oper} {listed : Array Bool} (hcl : ∀ (i : Nat) o, ops[i]? = some o → listed.getD i false = true → ∀ e ∈ o.after.toList, Region.binds .any e = true → listed.getD e.on false = true) :
    ∀ (n x a : Nat), listed.getD x false = true → waits ops n x a = true → listed.getD a false = true
  | 0, x, a, _, h => by simp [waits] at h
  | n + 1, x, a, hx, h => by
    unfold waits at h
    split at h
    · rename_i o ho
      obtain ⟨e, he, h2⟩ := List.any_eq_true.1 h
      simp only [Bool.and_eq_true, Bool.or_eq_true, beq_iff_eq] at h2
      have he' := hcl x o ho hx e he h2.1
      rcases h2.2 with h3 | h3
      · rw [← h3]; exact he'
      · exact waits_listed hcl n e.on a he' h3
    · cases h

theorem waits_back {ops : Array Oper} (hb : backward ops = true) : ∀ (n x a : Nat), waits ops n x a = true → a < x
  | 0, x, a, h => by simp [waits] at h
  | n + 1, x, a, h => by
    unfold waits at h
    split at h
    · rename_i o ho
      obtain ⟨e, he, h2⟩ := List.any_eq_true.1 h
      simp only [Bool.and_eq_true, Bool.or_eq_true, beq_iff_eq] at h2
      have hx : x < ops.size := (Array.getElem?_eq_some_iff.1 ho).1
      have hbx := List.all_eq_true.1 hb x (by simpa using hx)
      rw [ho] at hbx
      have := List.all_eq_true.1 hbx e he
      rw [h2.1] at this
      simp at this
      rcases h2.2 with h3 | h3
      · omega
      · have := waits_back hb n e.on a h3; omega
    · cases h

theorem ready_iff {ops : Array Oper} {listed : Array Bool} {i : Nat} : i ∈ Region.ready .any ops listed ↔ i < ops.size ∧ listed.getD i true = false ∧ ∀ o, ops[i]? = some o → ∀ e ∈ o.after.toList, Region.binds .any e = true → listed.getD e.on false = true := by
  unfold Region.ready
  rw [List.mem_filter]
  simp only [List.mem_range, Bool.and_eq_true, Bool.not_eq_true']
  constructor
  · rintro ⟨h1, h2, h3⟩
    refine ⟨h1, h2, fun o ho e he hb => ?_⟩
    rw [ho] at h3
    simp only [Option.map_some, Option.getD_some] at h3
    rw [← Array.all_toList] at h3
    have := List.all_eq_true.1 h3 e he
    simpa [hb] using this
  · rintro ⟨h1, h2, h3⟩
    refine ⟨h1, h2, ?_⟩
    have ho : ops[i]? = some ops[i] := Array.getElem?_eq_getElem h1
    rw [ho]
    simp only [Option.map_some, Option.getD_some]
    rw [← Array.all_toList]
    refine List.all_eq_true.2 fun e he => ?_
    cases hb : Region.binds .any e with
    | false => simp
    | true => simpa using h3 _ ho e he hb

theorem rank_get : ∀ (l : List AOp) (n j : Nat), (ranks.go n l).length = l.length ∧ (∀ o r, l[j]? = some o → (ranks.go n l)[j]? = some r → (makes o = true → ∃ k, r = some k ∧ n ≤ k ∧ k < n + ((ranks.go n l).filterMap id).length) ∧ (makes o = false → r = none))
  | [], n, j => ⟨rfl, fun o r h => by simp at h⟩
  | o :: l, n, j => by
    unfold ranks.go
    cases hm : makes o with
    | true =>
      simp only [if_true]
      obtain ⟨h1, h2⟩ := rank_get l (n + 1) (j - 1)
      refine ⟨by simp [h1], fun o' r ho hr => ?_⟩
      cases j with
      | zero => simp at ho hr; subst ho hr; exact ⟨fun _ => ⟨n, rfl, Nat.le_refl _, (by simp)⟩, (fun h => by rw [hm] at h; cases h)⟩
      | succ j =>
        obtain ⟨g1, g2⟩ := h2 o' r (by simpa using ho) (by simpa using hr)
        refine ⟨fun h => ?_, g2⟩
        obtain ⟨k, k1, k2, k3⟩ := g1 h
        refine ⟨k, k1, by omega, ?_⟩
        simp only [List.filterMap_cons, id, List.length_cons]
        omega
    | false =>
      simp only [Bool.false_eq_true, if_false]
      obtain ⟨h1, h2⟩ := rank_get l n (j - 1)
      refine ⟨by simp [h1], fun o' r ho hr => ?_⟩
      cases j with
      | zero => simp at ho hr; subst ho hr; exact ⟨(fun h => by rw [hm] at h; cases h), fun _ => rfl⟩
      | succ j =>
        obtain ⟨g1, g2⟩ := h2 o' r (by simpa using ho) (by simpa using hr)
        refine ⟨fun h => ?_, g2⟩
        obtain ⟨k, k1, k2, k3⟩ := g1 h
        exact ⟨k, k1, k2, by simpa using k3⟩
theorem rank_inj : ∀ (l : List AOp) (n i j k : Nat), (ranks.go n l)[i]? = some (some k) → (ranks.go n l)[j]? = some (some k) → i = j ∧ n ≤ k
  | [], n, i, j, k, h, _ => by simp [ranks.go] at h
  | o :: l, n, i, j, k, hi, hj => by
    unfold ranks.go at hi hj
    cases hm : makes o with
    | true =>
      rw [hm] at hi hj
      simp only [if_true] at hi hj
      cases i with
      | zero =>
        cases j with
        | zero => simp at hi; exact ⟨rfl, by omega⟩
        | succ j =>
          simp at hi hj
          have := (rank_inj l (n + 1) j j k hj hj).2
          omega
      | succ i =>
        cases j with
        | zero =>
          simp at hi hj
          have := (rank_inj l (n + 1) i i k hi hi).2
          omega
        | succ j =>
          simp at hi hj
          have := rank_inj l (n + 1) i j k hi hj
          omega
    | false =>
      rw [hm] at hi hj
      simp only [Bool.false_eq_true, if_false] at hi hj
      cases i with
      | zero => simp at hi
      | succ i =>
        cases j with
        | zero => simp at hj
        | succ j =>
          simp at hi hj
          have := rank_inj l n i j k hi hj
          omega

/-- The plan of a region that draws. -/
structure Plan (P : Program) (pureF : FuncId → Bool) (ops : Array Oper) (n : Nat) (L : List AIns) : Prop where
  len : L.length = ops.size
  back : backward ops = true
  ins : ∀ (j : Nat) o i, ops[j]? = some o → L[j]? = some i → ∃ i0, trIns P pureF true ops o = some i0 ∧ i.dst = i0.dst ∧ i.guard = i0.guard ∧ i.op = i0.op
  planned : ∀ (j : Nat) i, L[j]? = some i → Planned i
  sep : ∀ (i j : Nat) x y, L[i]? = some x → L[j]? = some y → i ≠ j → waits ops ops.size i j = false → waits ops ops.size j i = false → Sep x y
  dest : ∀ (j : Nat) i r, L[j]? = some i → i.dest = some r → r < n
  mask : ∀ (j : Nat) i r, L[j]? = some i → r ∈ i.mask → r < n
  inj : ∀ (i j : Nat) x y r, L[i]? = some x → L[j]? = some y → x.dest = some r → y.dest = some r → i = j

theorem makes_kind {o : AOp} (h : kind o = .p ∨ kind o = .r ∨ kind o = .c) : makes o = false := by
  cases o with
  | call mp f args => cases mp <;> rfl
  | _ => simp_all [makes, kind]

theorem drawn_plan {ops : Array Oper} {n : Nat} {L : List AIns} (h : trDrawn P pureF ops = some (.drawn n L)) : Plan P pureF ops n L := by
  unfold trDrawn at h
  obtain ⟨l, hl, h⟩ := opt_bind h
  simp only at h
  split at h
  case isFalse => cases h
  rename_i hc
  simp only [Bool.and_eq_true] at hc
  obtain ⟨hback, hpairs⟩ := hc
  simp only [pure, Option.some.injEq, ACode.drawn.injEq] at h
  obtain ⟨hn, hL⟩ := h
  obtain ⟨hlen, hget⟩ := mapM_get hl
  have hrl : (ranks (l.map (·.op))).length = l.length := by unfold ranks; rw [(rank_get _ 0 0).1]; simp
  have get : ∀ (j : Nat) i, L[j]? = some i → ∃ i0, l[j]? = some i0 ∧ i = planIns ops (ranks (l.map (·.op))) j i0 := fun j i hi => by
    rw [← hL, List.getElem?_map, List.getElem?_zipIdx] at hi
    simp only [Option.map_eq_some_iff] at hi
    obtain ⟨p, hp, rfl⟩ := hi
    obtain ⟨i0, h1, rfl⟩ := hp
    exact ⟨i0, h1, by simp⟩
  have rk : ∀ (j : Nat) i0, l[j]? = some i0 → ∃ r, (ranks (l.map (·.op)))[j]? = some r ∧ (makes i0.op = true → ∃ k, r = some k ∧ k < n) ∧ (makes i0.op = false → r = none) := fun j i0 hi0 => by
    have hj : j < l.length := (List.getElem?_eq_some_iff.1 hi0).1
    have hr : (ranks (l.map (·.op)))[j]? = some ((ranks (l.map (·.op)))[j]'(by omega)) := List.getElem?_eq_getElem _
    refine ⟨_, hr, ?_⟩
    have := (rank_get (l.map (·.op)) 0 j).2 i0.op _ (by simp [hi0]) (show (ranks.go 0 (l.map (·.op)))[j]? = _ from hr)
    refine ⟨fun hm => ?_, this.2⟩
    obtain ⟨k, k1, k2, k3⟩ := this.1 hm
    exact ⟨k, k1, by rw [← hn]; simpa [ranks] using k3⟩
  have getD : ∀ (j : Nat) r, (ranks (l.map (·.op)))[j]? = some r → (ranks (l.map (·.op))).getD j none = r := fun j r h => by
    rw [List.getD_eq_getElem?_getD, h]; rfl
  -- a rank that is met belongs to one operation
  have lt : ∀ (j k : Nat), (ranks (l.map (·.op))).getD j none = some k → k < n := fun j k h => by
    by_cases hj : j < l.length
    · obtain ⟨r, r1, r2, r3⟩ := rk j _ (List.getElem?_eq_getElem hj)
      rw [getD j r r1] at h
      subst h
      cases hm : makes l[j].op with
      | true => obtain ⟨k', k1, k2⟩ := r2 hm; simp at k1; omega
      | false => have := r3 hm; cases this
    · rw [List.getD_eq_getElem?_getD, List.getElem?_eq_none (by omega)] at h; cases h
  have waitsSep : ∀ (i j : Nat) x0 y0, l[i]? = some x0 → l[j]? = some y0 → j < i → waits ops ops.size i j = false → waits ops ops.size j i = false → apartA x0 y0 = true ∧ conflict (kind x0.op) (kind y0.op) = false := fun i j x0 y0 hi hj hji w1 w2 => by
    have hil : i < ops.size := by
      have := (List.getElem?_eq_some_iff.1 hi).1
      rw [hlen] at this; simpa using this
    have h1 := List.all_eq_true.1 hpairs i (by simpa using hil)
    have h2 := List.all_eq_true.1 h1 j (by simpa using hji)
    unfold pairOk at h2
    rw [w1, w2, hi, hj] at h2
    simpa using h2
  refine ⟨by rw [← hL]; simp [hlen], hback, fun j o i ho hi => ?_, fun j i hi => ?_, fun i j x y hx hy hne w1 w2 => ?_, fun j i r hi hr => ?_, fun j i r hi hr => ?_, fun i j x y r hx hy h1 h2 => ?_⟩
  · obtain ⟨i0, h1, rfl⟩ := get j i hi
    exact ⟨i0, hget j o i0 (by simpa using ho) h1, rfl, rfl, rfl⟩
  · obtain ⟨i0, h1, rfl⟩ := get j i hi
    obtain ⟨r, r1, r2, r3⟩ := rk j i0 h1
    refine ⟨fun hk => ?_, fun hm => ?_, fun hm => ?_⟩
    · have : ¬ (kind i0.op = .r ∨ kind i0.op = .w) := by
        have hk' : kind i0.op = .p ∨ kind i0.op = .a ∨ kind i0.op = .c := hk
        rcases hk' with h | h | h <;> rw [h] <;> simp
      simp only [planIns, if_neg this]
    · obtain ⟨k, k1, k2⟩ := r2 hm
      exact ⟨k, by simp only [planIns]; rw [getD j r r1, k1]⟩
    · simp only [planIns]; rw [getD j r r1, r3 hm]
  · obtain ⟨x0, hx0, rfl⟩ := get i x hx
    obtain ⟨y0, hy0, rfl⟩ := get j y hy
    have hsep : apartA x0 y0 = true ∧ conflict (kind x0.op) (kind y0.op) = false ∨ apartA y0 x0 = true ∧ conflict (kind y0.op) (kind x0.op) = false := by
      rcases Nat.lt_or_gt_of_ne hne with h | h
      · exact .inr (waitsSep j i y0 x0 hy0 hx0 h w2 w1)
      · exact .inl (waitsSep i j x0 y0 hx0 hy0 h w1 w2)
    have hm : ∀ {a b : Nat} {a0 : AIns} {r : Nat}, l[a]? = some a0 → a ≠ b → waits ops ops.size b a = false → (ranks (l.map (·.op))).getD a none = some r → r ∈ (List.range (ranks (l.map (·.op))).length).filterMap fun c => if c ≠ b ∧ !waits ops ops.size b c then (ranks (l.map (·.op))).getD c none else none := fun {a b a0 r} ha hab hw hr => by
      have hal : a < (ranks (l.map (·.op))).length := by
        rw [hrl]; exact (List.getElem?_eq_some_iff.1 ha).1
      exact List.mem_filterMap.2 ⟨a, List.mem_range.2 hal, by rw [if_pos ⟨hab, by simpa using hw⟩]; exact hr⟩
    have mk : ∀ {x0 y0 : AIns} {i j : Nat}, l[i]? = some x0 → l[j]? = some y0 → i ≠ j → waits ops ops.size i j = false → waits ops ops.size j i = false → apartA x0 y0 = true → conflict (kind x0.op) (kind y0.op) = false →
        Sep (planIns ops (ranks (l.map (·.op))) i x0) (planIns ops (ranks (l.map (·.op))) j y0) := by
      intro x0 y0 i j hi hj hne w1 w2 ha hc
      refine ⟨ha, hc, fun hk r hr => ?_, fun hk r hr => ?_, fun r h1 h2 => ?_⟩
      · simp only [planIns] at hr hk ⊢
        rw [if_pos hk]
        exact hm hi hne w2 hr
      · simp only [planIns] at hr hk ⊢
        rw [if_pos hk]
        exact hm hj (Ne.symm hne) w1 hr
      · simp only [planIns] at h1 h2
        obtain ⟨r1, g1, _⟩ := rk i x0 hi
        obtain ⟨r2, g2, _⟩ := rk j y0 hj
        rw [getD i r1 g1] at h1
        rw [getD j r2 g2] at h2
        subst h1 h2
        exact hne (rank_inj (l.map (·.op)) 0 i j r (by simpa [ranks] using g1) (by simpa [ranks] using g2)).1
    rcases hsep with ⟨h1, h2⟩ | ⟨h1, h2⟩
    · exact mk hx0 hy0 hne w1 w2 h1 h2
    · exact (mk hy0 hx0 (Ne.symm hne) w2 w1 h1 h2).symm
  · obtain ⟨i0, h1, rfl⟩ := get j i hi
    exact lt j r hr
  · obtain ⟨i0, h1, rfl⟩ := get j i hi
    simp only [planIns] at hr
    split at hr
    · obtain ⟨c, hc1, hc2⟩ := List.mem_filterMap.1 hr
      split at hc2
      · exact lt c r hc2
      · cases hc2
    · simp at hr
  · obtain ⟨x0, hx0, rfl⟩ := get i x hx
    obtain ⟨y0, hy0, rfl⟩ := get j y hy
    simp only [planIns] at h1 h2
    obtain ⟨r1, g1, _⟩ := rk i x0 hx0
    obtain ⟨r2, g2, _⟩ := rk j y0 hy0
    rw [getD i r1 g1] at h1
    rw [getD j r2 g2] at h2
    subst h1 h2
    exact (rank_inj (l.map (·.op)) 0 i j r (by simpa [ranks] using g1) (by simpa [ranks] using g2)).1
end
end Go.AM
