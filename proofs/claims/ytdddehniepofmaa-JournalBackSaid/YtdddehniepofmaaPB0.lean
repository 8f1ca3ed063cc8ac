/-
  Chapter 42: the statement JournalBack.
  CONDITIONS: none beyond those of the rows.
-/
import Derived.Test.YtdddehniepofmaaPB6
namespace Go.Proofs.Ytdddehniepofmaa
open Go.AM Go.RowKit
set_option maxRecDepth 100000
set_option linter.unusedVariables false
set_option linter.unusedSimpArgs false
set_option maxHeartbeats 4000000

def toB (n : Int) : UInt8 := UInt8.ofNat n.toNat
theorem byte_enc (H : Heap) (x : (Ty.int .u8).den) (c : List Value) (h : Rep (.int .u8) H x c) : c = Fn.encb (toB x) := by
  obtain ⟨e, h1, h2⟩ := Rep.int_of h
  obtain ⟨n, hn⟩ : ∃ n : Int, n = x := ⟨x, rfl⟩
  rw [← hn] at e h1 h2
  have h3 : (0 : Int) ≤ n := h1
  have h4 : n ≤ 255 := h2
  rw [e]
  simp only [Fn.encb, Fn.u8, toB, ← hn]
  rw [UInt8.toNat_ofNat_of_lt' (by show n.toNat < 256; omega)]
  congr 2
  omega
theorem text_enc (H : Heap) (x : Ty.str.den) (c : List Value) (h : Rep .str H x c) : c = Fn.enct (id x) := (Rep.str_of h).1
theorem int_arg {k : IntKind} {H : Heap} {n : Int} {v : Value} (h : RepV (.int k) H n v) : v = .int k n ∧ k.min ≤ n ∧ n ≤ k.max := by
  have := Rep.int_of (RepV.one rfl h)
  exact ⟨List.singleton_inj.1 this.1, this.2⟩

theorem back_run (H : Heap) (vs : List Value) (x : dens [.slice .str, .slice .str, .int .u16]) (h : RepAll [.slice .str, .slice .str, .int .u16] H x vs) : CallR Fn.E false H.length 7 vs H fun v _ => v = .bool true := by
  obtain ⟨v0, _, rfl, h0, v1, _, rfl, h1, v2, _, rfl, h2, rfl⟩ := h
  obtain ⟨p, k1, rfl, s1, _, l1⟩ := slice_arg (t := .str) id Fn.enct text_enc h0
  obtain ⟨q, k2, rfl, s2, _, l2⟩ := slice_arg (t := .str) id Fn.enct text_enc h1
  obtain ⟨rfl, m1, m2⟩ := int_arg h2
  obtain ⟨n, hn⟩ : ∃ n : Nat, x.2.2.1 = (n : Int) := ⟨Int.toNat x.2.2.1, (Int.toNat_of_nonneg m1).symm⟩
  rw [hn] at m2 ⊢
  rw [Fn.JournalBack_ok s1 s2 l1 l2 (by have : IntKind.u16.max = 65535 := rfl; omega)]

theorem back_lifted (os : Os) (started : os.Started) (H : Type) (enc : TypeId × Value → H) :
    ReturnsInHanded {} Try.checked os 7 .any (Rows.journalBackSpec.pre6 enc Try.prog Try.f7 Rows.journalBackRow.domain false) (Rows.journalBackSpec.post enc Try.prog Try.f7 false true false false) :=
  law_returns (C := Try.checked) (E := Fn.E) (tys := [.slice .str, .slice .str, .int .u16]) own started (by kernel_rfl) Try.func7 rfl
    (fun ds hd => match ds, hd with | [_, _, _], _ => rfl) rfl (by kernel_rfl) (by kernel_rfl) (of_decide_eq_true (by kernel_rfl)) laidOut okE
    (ChangeSpec.witness6 (enc := enc) (C := Try.checked) false ⟨#[], #[.slice none 0 0, .slice none 0 0, .int .u16 0], []⟩ 8 (by kernel_rfl) (by kernel_rfl) (by kernel_rfl) (by kernel_rfl)) back_run

theorem journalBack_holds : Rows.JournalBackSaid :=
  OpenClaim.holds_of_wide 7 Try.f7 rfl rfl rfl rfl rfl rfl rfl ⟨rfl, rfl, rfl, rfl, rfl⟩ rfl rfl rfl rfl rfl (by kernel_rfl) Try.func7 (by kernel_rfl)
    (of_decide_eq_true (by kernel_rfl)) (by unfold Func.isWrapper; first | (rw [if_pos (by decide +kernel)]; kernel_rfl) | (rw [if_neg (by decide +kernel)]; exact ⟨rfl, rfl⟩))
    (fun os started H enc _ => back_lifted os started H enc)
end Go.Proofs.Ytdddehniepofmaa
