/-
  The abstract machine, part 3: how an abstract heap lies in the model's memory, and what is kept of that by reading, by a new block and by a store.
-/
import Derived.Test.YtlmoijifgbkapaaAm2
import Derived.Deep.MidRow
import Derived.Deep.AppendSrc
import Derived.RowKit3
set_option linter.unusedVariables false
set_option linter.unusedSimpArgs false
namespace Go.AM

structure Loc where
  blk : Nat
  base : Nat
  room : Nat

abbrev Sig := Nat → Option Loc

inductive VRel (σ : Sig) : Value → Value → Prop
  | atom {v} (h : atom v = true) : VRel σ v v
  | ptr {i k L} (h : σ i = some L) : VRel σ (.pointer (some ⟨i, k, none⟩)) (.pointer (some ⟨L.blk, L.base + k, none⟩))
  | slice {i k L n c} (h : σ i = some L) (hc : c < 2 ^ 62) : VRel σ (.slice (some ⟨i, k, none⟩) n c) (.slice (some ⟨L.blk, L.base + k, none⟩) n c)
  | lslice {i k L n e c} (h : σ i = some L) (hn : n ≤ c) (hr : k + c * e ≤ L.room) :
      VRel σ (.slice (some ⟨i, k, none⟩) n (loose e)) (.slice (some ⟨L.blk, L.base + k, none⟩) n c)
  | eslice {i k L c a} (h : σ i = some L) (hc : c = 0 ∨ ∃ e, c = loose e) : VRel σ (.slice (some ⟨i, k, none⟩) 0 c) (.slice (some a) 0 0)
  | map {i L} (h : σ i = some L) : VRel σ (.map (some i)) (.map (some L.blk))
  | func {f : FuncId} {a b c d : Array Value} (h1 : a.size = c.size) (h2 : b.size = d.size)
      (k1 : ∀ i (h : i < a.size) (h' : i < c.size), VRel σ a[i] c[i]) (k2 : ∀ i (h : i < b.size) (h' : i < d.size), VRel σ b[i] d[i]) :
      VRel σ (.func (.func f) a b) (.func (.func f) c d)
  | agg {xs ys : Array Value} (h : xs.size = ys.size) (k : ∀ i (h : i < xs.size) (h' : i < ys.size), VRel σ xs[i] ys[i]) (o : ∀ i (h : i < ys.size), ys[i].oneCell' = true) : VRel σ (.agg xs) (.agg ys)
  | tuple {xs ys : Array Value} (h : xs.size = ys.size) (k : ∀ i (h : i < xs.size) (h' : i < ys.size), VRel σ xs[i] ys[i]) : VRel σ (.tuple xs) (.tuple ys)

/-- Two lists of values, place by place. -/
def LRel (σ : Sig) (xs ys : List Value) : Prop := xs.length = ys.length ∧ ∀ (i : Nat) x y, xs[i]? = some x → ys[i]? = some y → VRel σ x y

def Sig.le (σ τ : Sig) : Prop := ∀ i L, σ i = some L → τ i = some L

theorem Sig.le_refl (σ : Sig) : Sig.le σ σ := fun _ _ h => h
theorem Sig.le_trans {a b c : Sig} (h : Sig.le a b) (k : Sig.le b c) : Sig.le a c := fun i L hi => k i L (h i L hi)

theorem VRel.mono {σ τ : Sig} (hle : Sig.le σ τ) {v v' : Value} (h : VRel σ v v') : VRel τ v v' := by
  induction h with
  | atom h => exact .atom h
  | ptr h => exact .ptr (hle _ _ h)
  | slice h hc => exact .slice (hle _ _ h) hc
  | lslice h hn hr => exact .lslice (hle _ _ h) hn hr
  | eslice h hc => exact .eslice (hle _ _ h) hc
  | map h => exact .map (hle _ _ h)
  | func h1 h2 _ _ k1 k2 => exact .func h1 h2 k1 k2
  | agg h k o ih => exact .agg h ih o
  | tuple h k ih => exact .tuple h ih

theorem LRel.mono {σ τ : Sig} (hle : Sig.le σ τ) {v v' : List Value} (h : LRel σ v v') : LRel τ v v' := ⟨h.1, fun i x y hx hy => (h.2 i x y hx hy).mono hle⟩
theorem LRel.nil {σ : Sig} : LRel σ [] [] := ⟨rfl, fun i x y h => by simp at h⟩
theorem LRel.cons {σ : Sig} {x y : Value} {xs ys : List Value} (h : VRel σ x y) (k : LRel σ xs ys) : LRel σ (x :: xs) (y :: ys) := by
  refine ⟨by simp [k.1], fun i a b ha hb => ?_⟩
  cases i with
  | zero => simp at ha hb; subst ha hb; exact h
  | succ i => simp at ha hb; exact k.2 i a b ha hb
theorem LRel.head {σ : Sig} {x y : Value} {xs ys : List Value} (h : LRel σ (x :: xs) (y :: ys)) : VRel σ x y := h.2 0 x y rfl rfl
theorem LRel.tail {σ : Sig} {x y : Value} {xs ys : List Value} (h : LRel σ (x :: xs) (y :: ys)) : LRel σ xs ys :=
  ⟨by have := h.1; simp at this; exact this, fun i a b ha hb => h.2 (i + 1) a b (by simpa using ha) (by simpa using hb)⟩
theorem LRel.append {σ : Sig} {a b c d : List Value} (h : LRel σ a c) (k : LRel σ b d) : LRel σ (a ++ b) (c ++ d) := by
  refine ⟨by simp [h.1, k.1], fun i x y hx hy => ?_⟩
  by_cases hi : i < a.length
  · rw [List.getElem?_append_left hi] at hx
    rw [List.getElem?_append_left (by rw [← h.1]; exact hi)] at hy
    exact h.2 i x y hx hy
  · rw [List.getElem?_append_right (by omega)] at hx
    rw [List.getElem?_append_right (by rw [← h.1]; omega), ← h.1] at hy
    exact k.2 _ x y hx hy
theorem LRel.drop {σ : Sig} {a b : List Value} (h : LRel σ a b) (n : Nat) : LRel σ (a.drop n) (b.drop n) :=
  ⟨by simp [h.1], fun i x y hx hy => h.2 (n + i) x y (by simpa using hx) (by simpa using hy)⟩
theorem LRel.take {σ : Sig} {a b : List Value} (h : LRel σ a b) (n : Nat) : LRel σ (a.take n) (b.take n) := by
  refine ⟨by simp [h.1], fun i x y hx hy => ?_⟩
  simp only [List.getElem?_take] at hx hy
  split at hx
  · rename_i hi; rw [if_pos hi] at hy; exact h.2 i x y hx hy
  · cases hx
theorem LRel.get {σ : Sig} {a b : List Value} (h : LRel σ a b) {i : Nat} {x : Value} (hx : a[i]? = some x) : ∃ y, b[i]? = some y ∧ VRel σ x y := by
  have hi : i < a.length := (List.getElem?_eq_some_iff.1 hx).1
  have hb : b[i]? = some (b[i]'(by rw [← h.1]; exact hi)) := List.getElem?_eq_getElem _
  exact ⟨_, hb, h.2 i _ _ hx hb⟩
theorem LRel.refl_of {σ : Sig} {a : List Value} (h : ∀ x ∈ a, VRel σ x x) : LRel σ a a :=
  ⟨rfl, fun i x y hx hy => by rw [hx] at hy; cases hy; exact h x (List.mem_of_getElem? hx)⟩
theorem LRel.atoms {σ : Sig} {a : List Value} (h : a.all atom = true) : LRel σ a a := LRel.refl_of fun x hx => .atom (List.all_eq_true.1 h x hx)
theorem LRel.set {σ : Sig} {a b : List Value} (h : LRel σ a b) {x y : Value} (k : VRel σ x y) (n : Nat) : LRel σ (a.set n x) (b.set n y) := by
  refine ⟨by simp [h.1], fun i u v hu hv => ?_⟩
  rw [List.getElem?_set] at hu hv
  by_cases hn : n = i
  · subst hn
    rw [if_pos rfl] at hu hv
    split at hu
    · split at hv
      · cases hu; cases hv; exact k
      · cases hv
    · cases hu
  · rw [if_neg hn] at hu hv
    exact h.2 i u v hu hv
theorem LRel.map {σ : Sig} {α : Type} (l : List α) (f g : α → Value) (h : ∀ x ∈ l, VRel σ (f x) (g x)) : LRel σ (l.map f) (l.map g) := by
  refine ⟨by simp, fun i u v hu hv => ?_⟩
  simp only [List.getElem?_map, Option.map_eq_some_iff] at hu hv
  obtain ⟨a, ha, rfl⟩ := hu
  obtain ⟨b, hb, rfl⟩ := hv
  rw [ha] at hb; cases hb
  exact h a (List.mem_of_getElem? ha)

theorem VRel.agg_iff {σ : Sig} {xs ys : Array Value} : VRel σ (.agg xs) (.agg ys) ↔ LRel σ xs.toList ys.toList ∧ ∀ y ∈ ys.toList, y.oneCell' = true := by
  constructor
  · intro h
    cases h with
    | atom h => simp [AM.atom] at h
    | agg h k o =>
      refine ⟨⟨by simpa using h, fun i x y hx hy => ?_⟩, fun y hy => ?_⟩
      · simp only [Array.getElem?_toList] at hx hy
        obtain ⟨hi, rfl⟩ := Array.getElem?_eq_some_iff.1 hx
        obtain ⟨hj, rfl⟩ := Array.getElem?_eq_some_iff.1 hy
        exact k i hi hj
      · obtain ⟨i, hi, rfl⟩ := Array.mem_iff_getElem.1 (Array.mem_toList_iff.1 hy)
        exact o i hi
  · rintro ⟨h, k⟩
    refine .agg (by simpa using h.1) (fun i h1 h2 => h.2 i _ _ (by simp [h1]) (by simp [h2])) (fun i h1 => k _ (by simp))
theorem VRel.tuple_iff {σ : Sig} {xs ys : Array Value} : VRel σ (.tuple xs) (.tuple ys) ↔ LRel σ xs.toList ys.toList := by
  constructor
  · intro h
    cases h with
    | atom h =>
      have h0 : xs = #[] := by simpa [AM.atom] using h
      subst h0
      exact LRel.nil
    | tuple h k =>
      refine ⟨by simpa using h, fun i x y hx hy => ?_⟩
      simp only [Array.getElem?_toList] at hx hy
      obtain ⟨hi, rfl⟩ := Array.getElem?_eq_some_iff.1 hx
      obtain ⟨hj, rfl⟩ := Array.getElem?_eq_some_iff.1 hy
      exact k i hi hj
  · intro h
    exact .tuple (by simpa using h.1) fun i h1 h2 => h.2 i _ _ (by simp [h1]) (by simp [h2])

/-- What the model's value is, where the abstract one is known. -/
theorem VRel.agg_left {σ : Sig} {xs : Array Value} {v : Value} (h : VRel σ (.agg xs) v) : ∃ ys, v = .agg ys ∧ LRel σ xs.toList ys.toList ∧ ∀ y ∈ ys.toList, y.oneCell' = true := by
  cases h with
  | atom h => simp [AM.atom] at h
  | agg h k o => exact ⟨_, rfl, VRel.agg_iff.1 (.agg h k o)⟩
theorem VRel.tuple_left {σ : Sig} {xs : Array Value} {v : Value} (h : VRel σ (.tuple xs) v) : ∃ ys, v = .tuple ys ∧ LRel σ xs.toList ys.toList := by
  cases h with
  | atom h => exact ⟨_, rfl, VRel.tuple_iff.1 (.atom h)⟩
  | tuple h k => exact ⟨_, rfl, VRel.tuple_iff.1 (.tuple h k)⟩
theorem VRel.int_left {σ : Sig} {k : IntKind} {n : Int} {v : Value} (h : VRel σ (.int k n) v) : v = .int k n := by cases h; rfl
theorem VRel.bool_left {σ : Sig} {b : Bool} {v : Value} (h : VRel σ (.bool b) v) : v = .bool b := by cases h; rfl
theorem VRel.string_left {σ : Sig} {b : ByteArray} {v : Value} (h : VRel σ (.string b) v) : v = .string b := by cases h; rfl
theorem VRel.nilptr_left {σ : Sig} {v : Value} (h : VRel σ (.pointer none) v) : v = .pointer none := by cases h; rfl
theorem VRel.nilmap_left {σ : Sig} {v : Value} (h : VRel σ (.map none) v) : v = .map none := by cases h; rfl
theorem VRel.nilfunc_left {σ : Sig} {v : Value} (h : VRel σ .nilFunc v) : v = .nilFunc := by cases h; rfl
theorem VRel.nilslice_left {σ : Sig} {n c : Nat} {v : Value} (h : VRel σ (.slice none n c) v) : n = 0 ∧ c = 0 ∧ v = .slice none 0 0 := by
  cases h with
  | atom h =>
    have h0 : n = 0 ∧ c = 0 := by simpa [AM.atom] using h
    obtain ⟨rfl, rfl⟩ := h0
    exact ⟨rfl, rfl, rfl⟩
theorem VRel.ptr_left {σ : Sig} {p : Addr} {v : Value} (h : VRel σ (.pointer (some p)) v) : ∃ L, σ p.block = some L ∧ p.spot = none ∧ v = .pointer (some ⟨L.blk, L.base + p.off, none⟩) := by
  cases h with
  | atom h => simp [AM.atom] at h
  | ptr h => exact ⟨_, h, rfl, rfl⟩
theorem VRel.map_left {σ : Sig} {r : Nat} {v : Value} (h : VRel σ (.map (some r)) v) : ∃ L, σ r = some L ∧ v = .map (some L.blk) := by
  cases h with
  | atom h => simp [AM.atom] at h
  | map h => exact ⟨_, h, rfl⟩
theorem VRel.func_left {σ : Sig} {f : FuncId} {a b : Array Value} {v : Value} (h : VRel σ (.func (.func f) a b) v) : ∃ c d, v = .func (.func f) c d ∧ LRel σ a.toList c.toList ∧ LRel σ b.toList d.toList := by
  have key : ∀ {x y : Array Value}, x.size = y.size → (∀ i (h : i < x.size) (h' : i < y.size), VRel σ x[i] y[i]) → LRel σ x.toList y.toList := by
    intro x y h k
    exact VRel.tuple_iff.1 (.tuple h k)
  cases h with
  | atom h =>
    have h0 : a = #[] ∧ b = #[] := by simpa [AM.atom] using h
    obtain ⟨rfl, rfl⟩ := h0
    exact ⟨_, _, rfl, LRel.nil, LRel.nil⟩
  | func h1 h2 k1 k2 => exact ⟨_, _, rfl, key h1 k1, key h2 k2⟩
theorem VRel.slice_left {σ : Sig} {p : Addr} {n c : Nat} {v : Value} (h : VRel σ (.slice (some p) n c) v) : p.spot = none ∧ ∃ L, σ p.block = some L ∧
    ((c < 2 ^ 62 ∧ v = .slice (some ⟨L.blk, L.base + p.off, none⟩) n c) ∨
     (∃ e, c = loose e ∧ ∃ c', n ≤ c' ∧ p.off + c' * e ≤ L.room ∧ v = .slice (some ⟨L.blk, L.base + p.off, none⟩) n c') ∨
     (∃ a, (c = 0 ∨ ∃ e, c = loose e) ∧ n = 0 ∧ v = .slice (some a) 0 0)) := by
  cases h with
  | atom h => simp [AM.atom] at h
  | slice h hc => exact ⟨rfl, _, h, .inl ⟨hc, rfl⟩⟩
  | lslice h hn hr => exact ⟨rfl, _, h, .inr (.inl ⟨_, rfl, _, hn, hr, rfl⟩)⟩
  | eslice h hc => exact ⟨rfl, _, h, .inr (.inr ⟨_, hc, rfl, rfl⟩)⟩

theorem VRel.slice' {σ : Sig} {a : Addr} {L : Loc} {n c : Nat} (hs : a.spot = none) (hL : σ a.block = some L) (hc : c < 2 ^ 62) : VRel σ (.slice (some a) n c) (.slice (some ⟨L.blk, L.base + a.off, none⟩) n c) := by
  obtain ⟨b, o, s⟩ := a
  simp only at hs; subst hs
  exact .slice hL hc
theorem VRel.eslice' {σ : Sig} {a b : Addr} {L : Loc} {c : Nat} (hs : a.spot = none) (hL : σ a.block = some L) (hc : c = 0 ∨ ∃ e, c = AM.loose e) : VRel σ (.slice (some a) 0 c) (.slice (some b) 0 0) := by
  obtain ⟨b, o, s⟩ := a
  simp only at hs; subst hs
  exact .eslice hL hc

/-- The model's value lies in one cell where the abstract one does. -/
theorem VRel.oneCell {σ : Sig} {v v' : Value} (h : VRel σ v v') : v'.oneCell' = v.oneCell' := by cases h <;> rfl
theorem VRel.cells {σ : Sig} {v v' : Value} (h : VRel σ v v') : LRel σ v.cells.toList v'.cells.toList := by
  cases h with
  | agg h k o => exact (VRel.agg_iff.1 (.agg h k o)).1
  | atom h =>
    cases v <;> first | exact LRel.cons (.atom h) LRel.nil | (simp [AM.atom] at h)
  | ptr h => exact LRel.cons (.ptr h) LRel.nil
  | slice h hc => exact LRel.cons (.slice h hc) LRel.nil
  | lslice h hn hr => exact LRel.cons (.lslice h hn hr) LRel.nil
  | eslice h hc => exact LRel.cons (.eslice h hc) LRel.nil
  | map h => exact LRel.cons (.map h) LRel.nil
  | func h1 h2 k1 k2 => exact LRel.cons (.func h1 h2 k1 k2) LRel.nil
  | tuple h k => exact LRel.cons (.tuple h k) LRel.nil
theorem VRel.cells_one {σ : Sig} {v v' : Value} (h : VRel σ v v') (ht : notTuple v = true) : ∀ x ∈ v'.cells.toList, x.oneCell' = true := by
  intro x hx
  cases h with
  | agg h k o => exact (VRel.agg_iff.1 (.agg h k o)).2 x hx
  | atom h => cases v <;> first | (simp [notTuple] at ht; done) | (simp [Value.cells] at hx; subst hx; rfl) | (simp [AM.atom] at h; done)
  | tuple h k => simp [notTuple] at ht
  | _ => simp [Value.cells] at hx; subst hx; rfl
end Go.AM
