/-
  Chapter 42: the statement JournalPacks.
  CONDITIONS: none beyond those of the rows.
-/
import Derived.Test.YtdddehniepofmaaPP6
namespace Go.Proofs.Ytdddehniepofmaa
open Go.AM Go.RowKit
set_option maxRecDepth 100000
set_option linter.unusedVariables false
set_option linter.unusedSimpArgs false
set_option maxHeartbeats 4000000

def toB (n : Int) : UInt8 := UInt8.ofNat n.toNat
theorem byte_enc (H : Heap) (x : (Ty.int .u8).den) (c : List Value) (h : Rep (.int .u8) H x c) : c = Fn.encb (toB x) := by
  obtain ⟨e, h1, h2⟩ := Rep.int_of h
  obtain ⟨n, hn⟩ : ∃ n : Int, n = x := ⟨x, rfl⟩
  rw [← hn] at e h1 h2
  have h3 : (0 : Int) ≤ n := h1
  have h4 : n ≤ 255 := h2
  rw [e]
  simp only [Fn.encb, Fn.u8, toB, ← hn]
  rw [UInt8.toNat_ofNat_of_lt' (by show n.toNat < 256; omega)]
  congr 2
  omega
theorem text_enc (H : Heap) (x : Ty.str.den) (c : List Value) (h : Rep .str H x c) : c = Fn.enct (id x) := (Rep.str_of h).1

theorem packs_run (H : Heap) (vs : List Value) (x : dens [.slice .str, .slice (.int .u8)]) (h : RepAll [.slice .str, .slice (.int .u8)] H x vs) : CallR Fn.E false H.length 4 vs H fun v _ => v = .bool true := by
  obtain ⟨v0, _, rfl, h0, v1, _, rfl, h1, rfl⟩ := h
  obtain ⟨p, k1, rfl, s1, _, l1⟩ := slice_arg (t := .str) id Fn.enct text_enc h0
  obtain ⟨q, k2, rfl, s2, c2, l2⟩ := slice_arg (t := .int .u8) toB Fn.encb byte_enc h1
  rw [Fn.JournalPacks_ok s1 s2 c2 l1 l2]

theorem packs_lifted (os : Os) (started : os.Started) (H : Type) (enc : TypeId × Value → H) :
    ReturnsInHanded {} Try.checked os 4 .any (Rows.journalPacksSpec.pre6 enc Try.prog Try.f4 Rows.journalPacksRow.domain false) (Rows.journalPacksSpec.post enc Try.prog Try.f4 false true false false) :=
  law_returns (C := Try.checked) (E := Fn.E) (tys := [.slice .str, .slice (.int .u8)]) own started (by kernel_rfl) Try.func4 rfl
    (fun ds hd => match ds, hd with | [_, _], _ => rfl) rfl (by kernel_rfl) (by kernel_rfl) (of_decide_eq_true (by kernel_rfl)) laidOut okE
    (ChangeSpec.witness6 (enc := enc) (C := Try.checked) false ⟨#[], #[.slice none 0 0, .slice none 0 0], []⟩ 8 (by kernel_rfl) (by kernel_rfl) (by kernel_rfl) (by kernel_rfl)) packs_run

theorem journalPacks_holds : Rows.JournalPacksSaid :=
  OpenClaim.holds_of_wide 4 Try.f4 rfl rfl rfl rfl rfl rfl rfl ⟨rfl, rfl, rfl, rfl, rfl⟩ rfl rfl rfl rfl rfl (by kernel_rfl) Try.func4 (by kernel_rfl)
    (of_decide_eq_true (by kernel_rfl)) (by unfold Func.isWrapper; first | (rw [if_pos (by decide +kernel)]; kernel_rfl) | (rw [if_neg (by decide +kernel)]; exact ⟨rfl, rfl⟩))
    (fun os started H enc _ => packs_lifted os started H enc)
end Go.Proofs.Ytdddehniepofmaa
