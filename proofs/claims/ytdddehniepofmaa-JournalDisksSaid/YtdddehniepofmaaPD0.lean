/-
  Chapter 42: the statement JournalDisks.
  CONDITIONS: none beyond those of the rows.
-/
import Derived.Test.YtdddehniepofmaaPD6
namespace Go.Proofs.Ytdddehniepofmaa
open Go.AM Go.RowKit
set_option maxRecDepth 100000
set_option linter.unusedVariables false
set_option linter.unusedSimpArgs false
set_option maxHeartbeats 4000000

abbrev tSec : Ty := .arr 32 (.int .u8)
abbrev tWr : Ty := .pair (.int .i64) (.pair tSec .nil)
abbrev tDisk : Ty := .pair (.slice tSec) (.pair (.slice tWr) .nil)
def toSec (l : List Int) : Fn.Sec := Vector.ofFn fun i => UInt8.ofNat (l.getD i 0).toNat
def toWr (x : tWr.den) : Fn.Wr := ⟨x.1, toSec x.2.1⟩
theorem sec_cells (y : List Int) (hy : y.length = 32) (h : ∀ (i : Nat) n, y[i]? = some n → 0 ≤ n ∧ n ≤ 255) : y.map (fun n => Value.int .u8 n) = Fn.encX (toSec y) := by
  apply List.ext_getElem (by simp [Fn.encX_len, hy])
  intro i i1 i2
  have hi : i < y.length := by simpa using i1
  obtain ⟨h0, h1⟩ := h i _ (List.getElem?_eq_getElem hi)
  simp only [Fn.encX, List.getElem_map, Vector.getElem_toList, toSec, Vector.getElem_ofFn, Fn.u8, Value.int.injEq, true_and, List.getD_eq_getElem?_getD, List.getElem?_eq_getElem hi, Option.getD_some]
  generalize y[i] = n at h0 h1
  rw [UInt8.toNat_ofNat_of_lt' (by show n.toNat < 256; omega)]
  omega
theorem flat_ones (y : List Int) : (y.map fun n => [Value.int .u8 n]).flatten = y.map fun n => Value.int .u8 n := by
  induction y with
  | nil => rfl
  | cons a l ih => simp only [List.map_cons, List.flatten_cons, ih]; rfl
theorem sec_enc (H : Heap) (x : tSec.den) (c : List Value) (h : Rep tSec H x c) : c = Fn.encX (toSec x) := by
  obtain ⟨y, hy⟩ : ∃ y : List Int, y = x := ⟨x, rfl⟩
  subst hy
  obtain ⟨es, rfl, h1, h2, h3⟩ := h
  have h4 : es = y.map fun n => [Value.int .u8 n] := by
    apply List.ext_getElem (by simp [h1]; exact h2.symm)
    intro i i1 i2
    have hi : i < y.length := by simpa using i2
    have := h3 i _ _ (List.getElem?_eq_getElem hi) (List.getElem?_eq_getElem i1)
    rw [this.1]; simp
  rw [h4, flat_ones]
  refine sec_cells y h2 fun i n hn => ?_
  have hi : i < y.length := (List.getElem?_eq_some_iff.1 hn).1
  have hes : i < es.length := by rw [h1]; exact h2 ▸ hi
  have := h3 i n _ hn (List.getElem?_eq_getElem hes)
  exact ⟨this.2.1, this.2.2⟩
theorem wr_enc (H : Heap) (x : tWr.den) (c : List Value) (h : Rep tWr H x c) : c = Fn.encW (toWr x) := by
  obtain ⟨c1, r1, e1, h1, h2⟩ := Rep.pair_of h
  obtain ⟨c2, r2, e2, h3, h4⟩ := Rep.pair_of h2
  have h5 := sec_enc _ _ _ h3
  have h6 := (Rep.int_of h1).1
  have h7 := Rep.nil_of h4
  unfold toWr
  rw [Fn.encW_mk, e1, e2, h5, h6, h7, List.append_nil, List.cons_append, List.nil_append]
theorem disk_arg {H : Heap} {x : tDisk.den} {v : Value} (h : RepV tDisk H x v) : ∃ p k1 q k2, v = .agg #[.slice p (x.1.map toSec).length k1, .slice q (x.2.1.map toWr).length k2] ∧ Sl H Fn.encX 32 p (x.1.map toSec) ∧ Sl H Fn.encW 33 q (x.2.1.map toWr) ∧ x.1.length < 2 ^ 63 ∧ x.2.1.length < 2 ^ 63 := by
  obtain ⟨cs, e0, h0⟩ := RepV.row (by decide) h
  obtain ⟨c1, r1, e1, h1, h2⟩ := Rep.pair_of h0
  obtain ⟨c2, r2, e2, h3, h4⟩ := Rep.pair_of h2
  obtain ⟨p, k1, e3, s1, l1⟩ := Rep.sl (t := tSec) toSec Fn.encX sec_enc h1
  obtain ⟨q, k2, e4, s2, l2⟩ := Rep.sl toWr Fn.encW wr_enc h3
  rw [show tSec.size = 32 by decide] at s1
  rw [show tWr.size = 33 by decide] at s2
  rw [e0, e1, e2, e3, e4, Rep.nil_of h4]
  refine ⟨p, k1, q, k2, ?_, s1, s2, l1, l2⟩
  rw [List.append_nil, List.cons_append, List.nil_append]
theorem int_arg {k : IntKind} {H : Heap} {n : Int} {v : Value} (h : RepV (.int k) H n v) : v = .int k n ∧ k.min ≤ n ∧ n ≤ k.max := by
  have := Rep.int_of (RepV.one rfl h)
  exact ⟨List.singleton_inj.1 this.1, this.2⟩

theorem disks_run (H : Heap) (vs : List Value) (x : dens [tDisk, .int .u64, .int .u8]) (h : RepAll [tDisk, .int .u64, .int .u8] H x vs) : CallR Fn.E false H.length 3 vs H fun v _ => v = .bool true := by
  obtain ⟨v0, _, rfl, h0, v1, _, rfl, h1, v2, _, rfl, h2, rfl⟩ := h
  obtain ⟨p, k1, q, k2, rfl, s1, s2, l1, l2⟩ := disk_arg h0
  obtain ⟨rfl, _⟩ := int_arg h1
  obtain ⟨rfl, m1, m2⟩ := int_arg h2
  obtain ⟨n, hn⟩ : ∃ n : Nat, x.2.2.1 = (n : Int) := ⟨Int.toNat x.2.2.1, (Int.toNat_of_nonneg m1).symm⟩
  rw [hn] at m2 ⊢
  rw [Fn.JournalDisks_ok s1 s2 (by simpa using l1) (by simpa using l2) (by have : IntKind.u8.max = 255 := rfl; omega)]

theorem disks_lifted (os : Os) (started : os.Started) (H : Type) (enc : TypeId × Value → H) :
    ReturnsInHanded {} Try.checked os 3 .any (Rows.journalDisksSpec.pre6 enc Try.prog Try.f3 Rows.journalDisksRow.domain false) (Rows.journalDisksSpec.post enc Try.prog Try.f3 false true false false) :=
  law_returns (C := Try.checked) (E := Fn.E) (tys := [tDisk, .int .u64, .int .u8]) own started (by kernel_rfl) Try.func3 rfl
    (fun ds hd => match ds, hd with | [_, _, _], _ => rfl) rfl (by kernel_rfl) (by kernel_rfl) (of_decide_eq_true (by kernel_rfl)) laidOut okE
    (ChangeSpec.witness6 (enc := enc) (C := Try.checked) false ⟨#[], #[.agg #[.slice none 0 0, .slice none 0 0], .int .u64 0, .int .u8 0], []⟩ 8 (by kernel_rfl) (by kernel_rfl) (by kernel_rfl) (by kernel_rfl)) disks_run

theorem journalDisks_holds : Rows.JournalDisksSaid :=
  OpenClaim.holds_of_wide 3 Try.f3 rfl rfl rfl rfl rfl rfl rfl ⟨rfl, rfl, rfl, rfl, rfl⟩ rfl rfl rfl rfl rfl (by kernel_rfl) Try.func3 (by kernel_rfl)
    (of_decide_eq_true (by kernel_rfl)) (by unfold Func.isWrapper; first | (rw [if_pos (by decide +kernel)]; kernel_rfl) | (rw [if_neg (by decide +kernel)]; exact ⟨rfl, rfl⟩))
    (fun os started H enc _ => disks_lifted os started H enc)
end Go.Proofs.Ytdddehniepofmaa
