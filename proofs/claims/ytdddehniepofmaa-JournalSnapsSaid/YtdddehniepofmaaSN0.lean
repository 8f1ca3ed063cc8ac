/-
  Chapter 42: the statement JournalSnaps.
  CONDITIONS: none beyond those of the rows.
-/
import Derived.Test.YtdddehniepofmaaSN9
namespace Go.Proofs.Ytdddehniepofmaa
open Go.AM Go.RowKit
set_option maxRecDepth 100000
set_option linter.unusedVariables false
set_option linter.unusedSimpArgs false
set_option maxHeartbeats 4000000

abbrev tStp : Ty := .pair (.int .u8) (.pair (.int .u8) (.pair (.int .u8) (.pair (.int .u64) .nil)))
def toB (n : Int) : UInt8 := UInt8.ofNat n.toNat
theorem toB_val {n : Int} (h1 : IntKind.u8.min ≤ n) (h2 : n ≤ IntKind.u8.max) : ((toB n).toNat : Int) = n := by
  have h3 : (0 : Int) ≤ n := h1
  have h4 : n ≤ 255 := h2
  unfold toB
  rw [UInt8.toNat_ofNat_of_lt' (by show n.toNat < 256; omega)]
  omega
def toStp (x : tStp.den) : Fn.Stp := ⟨toB x.1, toB x.2.1, toB x.2.2.1, x.2.2.2.1⟩
theorem stp_enc (H : Heap) (x : tStp.den) (c : List Value) (h : Rep tStp H x c) : c = Fn.encS (toStp x) := by
  obtain ⟨c1, r1, e1, h1, g1⟩ := Rep.pair_of h
  obtain ⟨c2, r2, e2, h2, g2⟩ := Rep.pair_of g1
  obtain ⟨c3, r3, e3, h3, g3⟩ := Rep.pair_of g2
  obtain ⟨c4, r4, e4, h4, g4⟩ := Rep.pair_of g3
  obtain ⟨a1, m1, n1⟩ := Rep.int_of h1
  obtain ⟨a2, m2, n2⟩ := Rep.int_of h2
  obtain ⟨a3, m3, n3⟩ := Rep.int_of h3
  obtain ⟨a4, m4, n4⟩ := Rep.int_of h4
  have h5 := Rep.nil_of g4
  unfold toStp Fn.encS
  rw [toB_val m1 n1, toB_val m2 n2, toB_val m3 n3, e1, e2, e3, e4, a1, a2, a3, a4, h5]
  rfl
theorem int_arg {k : IntKind} {H : Heap} {n : Int} {v : Value} (h : RepV (.int k) H n v) : v = .int k n ∧ k.min ≤ n ∧ n ≤ k.max := by
  have := Rep.int_of (RepV.one rfl h)
  exact ⟨List.singleton_inj.1 this.1, this.2⟩

theorem snaps_run (H : Heap) (vs : List Value) (x : dens [.int .u8, .slice tStp, tStp, .int .u64]) (h : RepAll [.int .u8, .slice tStp, tStp, .int .u64] H x vs) : CallR Fn.E false H.length 9 vs H fun v _ => v = .bool true := by
  obtain ⟨v0, _, rfl, h0, v1, _, rfl, h1, v2, _, rfl, h2, v3, _, rfl, h3, rfl⟩ := h
  obtain ⟨p, k1, rfl, s1, _, l1⟩ := slice_arg (t := tStp) toStp Fn.encS stp_enc h1
  obtain ⟨rfl, m1, m2⟩ := int_arg h0
  obtain ⟨rfl, _, _⟩ := int_arg h3
  obtain ⟨cs, rfl, h4⟩ := RepV.row (by decide) h2
  have h5 := stp_enc _ _ _ h4
  subst h5
  rw [← toB_val m1 m2]
  rw [show tStp.size = 4 by decide] at s1
  rw [Fn.JournalSnaps_ok s1 l1]

theorem snaps_lifted (os : Os) (started : os.Started) (H : Type) (enc : TypeId × Value → H) :
    ReturnsInHanded {} Try.checked os 9 .any (Rows.journalSnapsSpec.pre6 enc Try.prog Try.f9 Rows.journalSnapsRow.domain false) (Rows.journalSnapsSpec.post enc Try.prog Try.f9 false true false false) :=
  law_returns (C := Try.checked) (E := Fn.E) (tys := [.int .u8, .slice tStp, tStp, .int .u64]) own started (by kernel_rfl) Try.func9 rfl
    (fun ds hd => match ds, hd with | [_, _, _, _], _ => rfl) rfl (by kernel_rfl) (by kernel_rfl) (of_decide_eq_true (by kernel_rfl)) laidOut okE
    (ChangeSpec.witness6 (enc := enc) (C := Try.checked) false ⟨#[], #[.int .u8 0, .slice none 0 0, .agg #[.int .u8 0, .int .u8 0, .int .u8 0, .int .u64 0], .int .u64 0], []⟩ 8 (by kernel_rfl) (by kernel_rfl) (by kernel_rfl) (by kernel_rfl)) snaps_run

theorem journalSnaps_holds : Rows.JournalSnapsSaid :=
  OpenClaim.holds_of_wide 9 Try.f9 rfl rfl rfl rfl rfl rfl rfl ⟨rfl, rfl, rfl, rfl, rfl⟩ rfl rfl rfl rfl rfl (by kernel_rfl) Try.func9 (by kernel_rfl)
    (of_decide_eq_true (by kernel_rfl)) (by unfold Func.isWrapper; first | (rw [if_pos (by decide +kernel)]; kernel_rfl) | (rw [if_neg (by decide +kernel)]; exact ⟨rfl, rfl⟩))
    (fun os started H enc _ => snaps_lifted os started H enc)
end Go.Proofs.Ytdddehniepofmaa
