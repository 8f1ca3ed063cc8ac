/-
  Joined texts, 7 of 9. A part of the claim that the last text states.
-/
import Derived.Test.YtdddehniepofmaaSN6
namespace Go.Proofs.Ytdddehniepofmaa.Fn
open Go.AM Go.AM.Sym
set_option maxRecDepth 100000
set_option linter.unusedVariables false
set_option linter.unusedSimpArgs false
set_option maxHeartbeats 4000000

def be4 (n : Nat) : List UInt8 := [byteN n 0, byteN n 1, byteN n 2, byteN n 3]
theorem numOf_be4 {n : Nat} (h : n < 2 ^ 32) : numOf (be4 n) = n := by
  simp only [numOf, be4, List.foldl_cons, List.foldl_nil, byteN, UInt8.toNat_ofNat']
  simp only [Nat.reducePow, Nat.reduceMul, Nat.reduceSub] at h ⊢
  omega
theorem mkSec_list {e lf n : Nat} {x : Nat × List UInt8} (h : x.2.length ≤ 18) : (mkSec e lf n x).toList = be4 e ++ (be4 lf ++ (be4 n ++ (UInt8.ofNat x.1 :: UInt8.ofNat x.2.length :: (x.2 ++ List.replicate (18 - x.2.length) 0)))) := by
  unfold mkSec
  rw [toS_list (by rw [putN_len, putN_len, putN_len, psec_len h])]
  have e1 : psec x = 0 :: 0 :: 0 :: 0 :: 0 :: 0 :: 0 :: 0 :: 0 :: 0 :: 0 :: 0 :: UInt8.ofNat x.1 :: UInt8.ofNat x.2.length :: (x.2 ++ List.replicate (18 - x.2.length) 0) := by
    unfold psec
    rw [List.append_assoc]
    rfl
  rw [e1]
  generalize UInt8.ofNat x.1 :: UInt8.ofNat x.2.length :: (x.2 ++ List.replicate (18 - x.2.length) 0) = r
  simp [putN, be4]
section
variable {e lf n : Nat} {x : Nat × List UInt8}
theorem mkSec_get0 (h : x.2.length ≤ 18) (he : e < 2 ^ 32) : get4 (mkSec e lf n x) 0 = e := by
  unfold get4; rw [mkSec_list h]; exact numOf_be4 he
theorem mkSec_get4 (h : x.2.length ≤ 18) (he : lf < 2 ^ 32) : get4 (mkSec e lf n x) 4 = lf := by
  unfold get4; rw [mkSec_list h]; exact numOf_be4 he
theorem mkSec_get8 (h : x.2.length ≤ 18) (he : n < 2 ^ 32) : get4 (mkSec e lf n x) 8 = n := by
  unfold get4; rw [mkSec_list h]; exact numOf_be4 he
theorem mkSec_fl (h : x.2.length ≤ 18) (he : x.1 < 256) : fl (mkSec e lf n x) = x.1 := by
  unfold fl; rw [mkSec_list h]
  show (UInt8.ofNat x.1).toNat = _
  rw [UInt8.toNat_ofNat_of_lt' (by show _ < 256; exact he)]
theorem mkSec_ln (h : x.2.length ≤ 18) : ln (mkSec e lf n x) = x.2.length := by
  unfold ln; rw [mkSec_list h]
  show (UInt8.ofNat x.2.length).toNat = _
  rw [UInt8.toNat_ofNat_of_lt' (by show _ < 256; omega)]
theorem mkSec_pay (h : x.2.length ≤ 18) : pay (mkSec e lf n x) = x.2 := by
  unfold pay; rw [mkSec_ln h, mkSec_list h]
  show (x.2 ++ List.replicate (18 - x.2.length) 0).take x.2.length = _
  rw [List.take_left]
theorem mkSec_marked (h : x.2.length ≤ 18) (h1 : x.1 ≤ 3) (h2 : x.1 < 2 → x.2.length = 18) (e1 : 1 ≤ e) (e2 : e ≤ 1073741824) (l1 : 1 ≤ lf) (l2 : lf ≤ 1073741824) (hn : n < 2 ^ 32) : sMarked (mkSec e lf n x) n = true := by
  unfold sMarked
  rw [mkSec_get0 h (by omega), mkSec_get4 h (by omega), mkSec_get8 h hn, mkSec_fl h (by omega), mkSec_ln h]
  rw [Bool.and_eq_true, decide_eq_true_eq, decide_eq_true_eq]
  refine ⟨⟨e1, e2, l1, l2, rfl, h1, h, h2⟩, ?_⟩
  rw [mkSec_list h]
  rw [← List.drop_drop]
  show (x.2 ++ List.replicate (18 - x.2.length) 0).drop x.2.length = _
  rw [List.drop_left]
end
/-- The sectors of some pieces. -/
def dsec (e lf : Nat) : Nat → List (Nat × List UInt8) → List Sec
  | _, [] => []
  | n, x :: r => mkSec e lf n x :: dsec e lf (n + 1) r
theorem dsec_len {e lf : Nat} : ∀ (r : List (Nat × List UInt8)) (n : Nat), (dsec e lf n r).length = r.length
  | [], _ => rfl
  | x :: r, n => by rw [dsec, List.length_cons, List.length_cons, dsec_len r]
theorem dsec_append {e lf : Nat} : ∀ (a b : List (Nat × List UInt8)) (n : Nat), dsec e lf n (a ++ b) = dsec e lf n a ++ dsec e lf (n + a.length) b
  | [], b, n => rfl
  | x :: a, b, n => by
    rw [List.cons_append, dsec, dsec, dsec_append a b, List.cons_append, List.length_cons]
    congr 3; omega
theorem wrsOf_append {base e lf : Nat} : ∀ (a b : List (Nat × List UInt8)) (n : Nat), wrsOf base e lf n (a ++ b) = wrsOf base e lf n a ++ wrsOf base e lf (n + a.length) b
  | [], b, n => rfl
  | x :: a, b, n => by
    rw [List.cons_append, wrsOf, wrsOf, wrsOf_append a b, List.cons_append, List.length_cons]
    congr 3; omega
/-- A sector that goes on. -/
theorem goes_mk {e lf n life : Nat} {ins : Bool} {x : Nat × List UInt8} (h : x.2.length ≤ 18) (h1 : x.1 ≤ 3) (h2 : x.1 < 2 → x.2.length = 18) (e1 : 1 ≤ e) (e2 : e ≤ 1073741824) (l1 : 1 ≤ lf) (l2 : lf ≤ 1073741824) (hn : n < 2 ^ 32) (hi : ins = decide (x.1 % 2 = 0)) (hl : life ≤ lf) (hl2 : ins = true → life = lf) : goesOn e n ins life (mkSec e lf n x) = true := by
  unfold goesOn
  rw [mkSec_marked h h1 h2 e1 e2 l1 l2 hn, mkSec_get0 h (by omega), mkSec_fl h (by omega), mkSec_get4 h (by omega)]
  cases ins with
  | true =>
    have h3 : x.1 % 2 = 0 := of_decide_eq_true hi.symm
    have h4 : ¬ x.1 % 2 = 1 := by omega
    have := hl2 rfl
    simp [h4, this]
  | false =>
    have h3 : ¬ x.1 % 2 = 0 := of_decide_eq_false hi.symm
    have h4 : x.1 % 2 = 1 := by omega
    simp [h4, hl]
/-- A record is read. -/
theorem rec_scan {e lf : Nat} (e1 : 1 ≤ e) (e2 : e ≤ 1073741824) (l1 : 1 ≤ lf) (l2 : lf ≤ 1073741824) : ∀ (f flg : Nat) (b : List UInt8) (i life : Nat) (rec : List UInt8) (l : List (List UInt8)) (en : Nat) (r : List Sec), b.length < f → flg ≤ 1 → i + f < 2 ^ 31 → life ≤ lf → (flg = 0 → life = lf) →
    recGo e i (dsec e lf i (pcsGo f flg b) ++ r) (decide (flg = 0)) life rec l en = recGo e (i + (pcsGo f flg b).length) r false lf [] (l ++ [rec ++ b]) (i + (pcsGo f flg b).length)
  | 0, flg, b, i, life, rec, l, en, r, h, _, _, _, _ => by omega
  | f + 1, flg, b, i, life, rec, l, en, r, h, hf, hi, hl, hl2 => by
    simp only [pcsGo]
    split
    · rename_i h18
      rw [dsec, dsec, List.cons_append, List.nil_append, recGo, if_pos (goes_mk h18 (by show flg + 2 ≤ 3; omega) (by show flg + 2 < 2 → _; omega) e1 e2 l1 l2 (by omega) (by show _ = decide ((flg + 2) % 2 = 0); congr 1; apply propext; omega) hl (by intro h; exact hl2 (of_decide_eq_true h)))]
      rw [mkSec_fl h18 (by show flg + 2 < 256; omega), if_neg (by show ¬ flg + 2 < 2; omega), mkSec_get4 h18 (by omega), mkSec_pay h18]
      rfl
    · rename_i h18
      have ht : (b.take 18).length = 18 := by rw [List.length_take]; omega
      rw [dsec, List.cons_append, recGo, if_pos (goes_mk (by show (b.take 18).length ≤ 18; omega) (by show flg ≤ 3; omega) (fun _ => ht) e1 e2 l1 l2 (by omega) (by show _ = decide (flg % 2 = 0); congr 1; apply propext; omega) hl (by intro h; exact hl2 (of_decide_eq_true h)))]
      rw [mkSec_fl (by show (b.take 18).length ≤ 18; omega) (by show flg < 256; omega), if_pos (by show flg < 2; omega), mkSec_get4 (by show (b.take 18).length ≤ 18; omega) (by omega), mkSec_pay (by show (b.take 18).length ≤ 18; omega)]
      have := rec_scan e1 e2 l1 l2 f 0 (b.drop 18) (i + 1) lf (rec ++ b.take 18) l en r (by simp; omega) (by omega) (by omega) (Nat.le_refl _) (fun _ => rfl)
      rw [show (decide ((0 : Nat) = 0)) = true from rfl] at this
      rw [this, List.length_cons, List.append_assoc, List.take_append_drop, Nat.add_assoc, Nat.add_comm 1]
/-- From here on no record comes to its end. -/
def noRec (e : Nat) : Nat → List Sec → Bool → Nat → Bool
  | _, [], _, _ => true
  | i, s :: r, ins, life => if goesOn e i ins life s then decide (fl s < 2) && noRec e (i + 1) r true (get4 s 4) else true
theorem recGo_noRec {e : Nat} : ∀ (s : List Sec) (i : Nat) (ins : Bool) (life : Nat) (rec : List UInt8) (l : List (List UInt8)) (en : Nat), noRec e i s ins life = true → recGo e i s ins life rec l en = (l, en)
  | [], _, _, _, _, _, _, _ => rfl
  | s :: r, i, ins, life, rec, l, en, h => by
    rw [recGo]
    rw [noRec] at h
    split
    · rename_i hg
      rw [if_pos hg, Bool.and_eq_true, decide_eq_true_eq] at h
      rw [if_pos h.1]
      exact recGo_noRec r _ _ _ _ _ _ h.2
    · rfl
/-- A sector that is from before. -/
def staleS (e lf i : Nat) (s : Sec) : Prop := sMarked s i = true → get4 s 0 = e → get4 s 4 < lf
theorem goes_stale {e lf i : Nat} {ins : Bool} {s : Sec} (h : staleS e lf i s) : goesOn e i ins lf s = false := by
  cases hg : goesOn e i ins lf s with
  | false => rfl
  | true =>
    simp only [goesOn, Bool.and_eq_true, decide_eq_true_eq] at hg
    have := h hg.1.1.1.1 hg.1.1.1.2
    omega
/-- A piece of a record, and something from before. -/
theorem part_scan {e lf : Nat} (e1 : 1 ≤ e) (e2 : e ≤ 1073741824) (l1 : 1 ≤ lf) (l2 : lf ≤ 1073741824) : ∀ (f flg : Nat) (b : List UInt8) (i life q : Nat) (s : Sec) (r : List Sec), b.length < f → flg ≤ 1 → i + f < 2 ^ 31 → life ≤ lf → (flg = 0 → life = lf) → q < (pcsGo f flg b).length → (q = 0 → life = lf) → staleS e lf (i + q) s →
    noRec e i ((dsec e lf i (pcsGo f flg b)).take q ++ s :: r) (decide (flg = 0)) life = true
  | 0, flg, b, i, life, q, s, r, h, _, _, _, _, _, _, _ => by omega
  | f + 1, flg, b, i, life, 0, s, r, h, hf, hi, hl, hl2, hq, hq0, hs => by
    have hs' : staleS e lf i s := hs
    rw [List.take_zero, List.nil_append, noRec, hq0 rfl, goes_stale hs']
    rfl
  | f + 1, flg, b, i, life, q + 1, s, r, h, hf, hi, hl, hl2, hq, hq0, hs => by
    simp only [pcsGo] at hq ⊢
    split
    · rename_i h18
      rw [if_pos h18] at hq
      simp at hq
    · rename_i h18
      rw [if_neg h18, List.length_cons] at hq
      have ht : (b.take 18).length = 18 := by rw [List.length_take]; omega
      rw [dsec, List.take_succ_cons, List.cons_append, noRec, if_pos (goes_mk (by show (b.take 18).length ≤ 18; omega) (by show flg ≤ 3; omega) (fun _ => ht) e1 e2 l1 l2 (by omega) (by show _ = decide (flg % 2 = 0); congr 1; apply propext; omega) hl (by intro h; exact hl2 (of_decide_eq_true h)))]
      rw [mkSec_fl (by show (b.take 18).length ≤ 18; omega) (by show flg < 256; omega), mkSec_get4 (by show (b.take 18).length ≤ 18; omega) (by omega)]
      have := part_scan e1 e2 l1 l2 f 0 (b.drop 18) (i + 1) lf q s r (by simp; omega) (by omega) (by omega) (Nat.le_refl _) (fun _ => rfl) (by omega) (fun _ => rfl) (by rw [show i + 1 + q = i + (q + 1) by omega]; exact hs)
      rw [show (decide ((0 : Nat) = 0)) = true from rfl] at this
      rw [this]
      simp; omega
/-- What is new among what is from before makes no record. -/
theorem noRec_mix {e L : Nat} : ∀ (r r' : List Sec) (i life : Nat), r.length = r'.length → noRec e i r true life = true → (∀ j, j < r.length → gt r' j = gt r j ∨ get4 (gt r' j) 4 = L) → (∀ j, j < r.length → staleS e L (i + j) (gt r j)) → life < L → noRec e i r' true life = true
  | [], [], i, life, hl, h, h1, h2, h3 => rfl
  | s :: r, s' :: r', i, life, hl, h, h1, h2, h3 => by
    have k1 := h1 0 (by simp)
    have k2 := h2 0 (by simp)
    rw [gt_cons_zero] at k1 k2
    rw [gt_cons_zero] at k1
    rw [noRec]
    split
    · rename_i hg
      rcases k1 with rfl | k1
      · rw [noRec, if_pos hg, Bool.and_eq_true] at h
        rw [h.1, Bool.true_and]
        have hg' := hg
        simp only [goesOn, Bool.and_eq_true, decide_eq_true_eq] at hg'
        refine noRec_mix r r' (i + 1) _ (by simpa using hl) h.2 (fun j hj => ?_) (fun j hj => ?_) (k2 hg'.1.1.1.1 hg'.1.1.1.2)
        · have := h1 (j + 1) (by simp; omega)
          rwa [gt_cons_succ, gt_cons_succ] at this
        · have := h2 (j + 1) (by simp; omega)
          rwa [gt_cons_succ, show i + (j + 1) = i + 1 + j by omega] at this
      · simp only [goesOn, Bool.and_eq_true, decide_eq_true_eq, Bool.true_and, Bool.not_eq_true', Bool.not_eq_false'] at hg
        omega
    · rfl
theorem noRec_mix0 {e L i life : Nat} {s : Sec} {r r' : List Sec} (hl : r.length = r'.length) (h : noRec e i (s :: r) false life = true) (h1 : ∀ j, j < r.length → gt r' j = gt r j ∨ get4 (gt r' j) 4 = L) (h2 : ∀ j, j < (s :: r).length → staleS e L (i + j) (gt (s :: r) j)) : noRec e i (s :: r') false life = true := by
  rw [noRec] at h ⊢
  split
  · rename_i hg
    rw [if_pos hg, Bool.and_eq_true] at h
    rw [h.1, Bool.true_and]
    simp only [goesOn, Bool.and_eq_true, decide_eq_true_eq] at hg
    have k2 := h2 0 (by simp)
    rw [gt_cons_zero] at k2
    refine noRec_mix r r' (i + 1) _ hl h.2 h1 (fun j hj => ?_) (k2 hg.1.1.1.1 hg.1.1.1.2)
    have := h2 (j + 1) (by simp; omega)
    rwa [gt_cons_succ, show i + (j + 1) = i + 1 + j by omega] at this
  · rfl
end Go.Proofs.Ytdddehniepofmaa.Fn
namespace Go.Proofs.Ytdddehniepofmaa.Fn
open Go.AM Go.AM.Sym
set_option maxRecDepth 100000
set_option linter.unusedVariables false
set_option linter.unusedSimpArgs false
set_option maxHeartbeats 4000000

/-- Records with their lives. -/
abbrev LR := List (Nat × List UInt8)
def lsize : LR → Nat
  | [] => 0
  | x :: r => needN x.2.length + lsize r
def lsecs (e : Nat) : Nat → LR → List Sec
  | _, [] => []
  | i, x :: r => dsec e x.1 i (pcs x.2) ++ lsecs e (i + needN x.2.length) r
def lastL : Nat → LR → Nat
  | l, [] => l
  | _, x :: r => lastL x.1 r
/-- The lives are in order. -/
def upL (b : Nat) : Nat → LR → Prop
  | l, [] => l ≤ b
  | l, x :: r => l ≤ x.1 ∧ 1 ≤ x.1 ∧ upL b x.1 r
theorem lsecs_len {e : Nat} : ∀ (r : LR) (i : Nat), (lsecs e i r).length = lsize r
  | [], _ => rfl
  | x :: r, i => by rw [lsecs, List.length_append, lsecs_len r, dsec_len, pcs_need, lsize]
theorem lsize_append : ∀ (a b : LR), lsize (a ++ b) = lsize a + lsize b
  | [], b => by simp [lsize]
  | x :: a, b => by rw [List.cons_append, lsize, lsize, lsize_append a b]; omega
theorem lsecs_append {e : Nat} : ∀ (a b : LR) (i : Nat), lsecs e i (a ++ b) = lsecs e i a ++ lsecs e (i + lsize a) b
  | [], b, i => rfl
  | x :: a, b, i => by rw [List.cons_append, lsecs, lsecs, lsecs_append a b, lsize, List.append_assoc, Nat.add_assoc]
theorem lastL_append : ∀ (a : LR) (l : Nat) (x : Nat × List UInt8), lastL l (a ++ [x]) = x.1
  | [], l, x => rfl
  | y :: a, l, x => by rw [List.cons_append, lastL, lastL_append a]
theorem upL_append {b : Nat} : ∀ (a : LR) (l : Nat) (x : Nat × List UInt8), upL x.1 l a → 1 ≤ x.1 → x.1 ≤ b → upL b l (a ++ [x])
  | [], l, x, h, h1, h2 => ⟨h, h1, h2⟩
  | y :: a, l, x, h, h1, h2 => ⟨h.1, h.2.1, upL_append a _ x h.2.2 h1 h2⟩
theorem upL_mono {b b' : Nat} (hb : b ≤ b') : ∀ (a : LR) (l : Nat), upL b l a → upL b' l a
  | [], l, h => Nat.le_trans h hb
  | y :: a, l, h => ⟨h.1, h.2.1, upL_mono hb a _ h.2.2⟩
theorem upL_last {b : Nat} : ∀ (a : LR) (l : Nat), upL b l a → upL (lastL l a) l a ∧ lastL l a ≤ b
  | [], l, h => ⟨Nat.le_refl _, h⟩
  | y :: a, l, h => by
    have := upL_last a _ h.2.2
    exact ⟨⟨h.1, h.2.1, this.1⟩, this.2⟩
theorem upL_le {b : Nat} : ∀ (a : LR) (l : Nat), upL b l a → l ≤ b
  | [], l, h => h
  | y :: a, l, h => Nat.le_trans h.1 (upL_le a _ h.2.2)
/-- All records are read. -/
theorem lsecs_scan {e b : Nat} (e1 : 1 ≤ e) (e2 : e ≤ 1073741824) (hb : b ≤ 1073741824) : ∀ (rl : LR) (i life : Nat) (l : List (List UInt8)) (r : List Sec), i + lsize rl < 2 ^ 30 → (∀ x ∈ rl, x.2.length < 2 ^ 20) → upL b life rl →
    recGo e i (lsecs e i rl ++ r) false life [] l i = recGo e (i + lsize rl) r false (lastL life rl) [] (l ++ rl.map (·.2)) (i + lsize rl)
  | [], i, life, l, r, _, _, _ => by simp [lsecs, lsize, lastL]
  | x :: rl, i, life, l, r, hi, hx, hu => by
    have h1 := upL_le rl _ hu.2.2
    have hx1 := hx x (by simp)
    simp only [lsize] at hi
    rw [lsecs, List.append_assoc]
    have h2 := rec_scan (e := e) (lf := x.1) e1 e2 hu.2.1 (by omega) (x.2.length + 1) 1 x.2 i life [] l i (lsecs e (i + needN x.2.length) rl ++ r) (Nat.lt_succ_self _) (Nat.le_refl _) (by omega) hu.1 (by intro h; cases h)
    rw [show (decide ((1 : Nat) = 0)) = false from rfl] at h2
    have hp : (pcsGo (x.2.length + 1) 1 x.2).length = needN x.2.length := pcs_need x.2
    rw [hp] at h2
    unfold pcs
    rw [h2, lsecs_scan e1 e2 hb rl (i + needN x.2.length) x.1 _ r (by omega) (fun y hy => hx y (by simp [hy])) hu.2.2]
    simp only [lsize, lastL, List.map_cons, List.nil_append, List.append_assoc, List.singleton_append, Nat.add_assoc]

/-- New sectors over old ones, but for the lost ones. -/
def ov (lost : List Bool) : Nat → List Sec → List Sec → List Sec
  | _, [], old => old
  | _, _, [] => []
  | i, x :: xs, o :: os => (if lost.getD i false then o else x) :: ov lost (i + 1) xs os
theorem ov_nil {lost : List Bool} {i : Nat} {old : List Sec} : ov lost i [] old = old := by cases old <;> rfl
theorem ov_len {lost : List Bool} : ∀ (a old : List Sec) (i : Nat), (ov lost i a old).length = old.length
  | [], old, i => by rw [ov_nil]
  | x :: xs, [], i => rfl
  | x :: xs, o :: os, i => by rw [ov, List.length_cons, List.length_cons, ov_len xs os]
theorem ov_get {lost : List Bool} : ∀ (a old : List Sec) (i j : Nat), a.length ≤ old.length → (ov lost i a old)[j]? = if j < a.length ∧ lost.getD (i + j) false = false then a[j]? else old[j]?
  | [], old, i, j, h => by rw [ov_nil]; simp
  | x :: xs, [], i, j, h => by simp at h
  | x :: xs, o :: os, i, 0, h => by
    rw [ov]
    cases hl : lost.getD i false <;> simp [hl]
  | x :: xs, o :: os, i, j + 1, h => by
    rw [ov, List.getElem?_cons_succ, ov_get xs os (i + 1) j (by simpa using h)]
    simp only [List.getElem?_cons_succ, List.length_cons, Nat.add_lt_add_iff_right]
    rw [show i + 1 + j = i + (j + 1) by omega]
theorem ov_append {lost : List Bool} : ∀ (a b old : List Sec) (i : Nat), a.length ≤ old.length → ov lost i (a ++ b) old = ov lost i a (old.take a.length) ++ ov lost (i + a.length) b (old.drop a.length)
  | [], b, old, i, h => by simp [ov]
  | x :: xs, b, [], i, h => by simp at h
  | x :: xs, b, o :: os, i, h => by
    rw [List.cons_append, ov, ov_append xs b os (i + 1) (by simpa using h)]
    simp only [List.length_cons, List.take_succ_cons, List.drop_succ_cons, ov, List.cons_append]
    rw [show i + 1 + xs.length = i + (xs.length + 1) by omega]
theorem ov_all {lost : List Bool} : ∀ (a old : List Sec) (i : Nat), a.length = old.length → (∀ j, j < a.length → lost.getD (i + j) false = false) → ov lost i a old = a
  | [], [], i, h, _ => rfl
  | x :: xs, o :: os, i, h, hl => by
    rw [ov, ov_all xs os (i + 1) (by simpa using h) fun j hj => by rw [show i + 1 + j = i + (j + 1) by omega]; exact hl (j + 1) (by simpa using hj)]
    rw [show lost.getD i false = false from hl 0 (by simp)]
    simp
/-- The first one that is lost. -/
theorem ov_first {lost : List Bool} : ∀ (a old : List Sec) (i q : Nat), a.length ≤ old.length → q < a.length → (∀ j, j < q → lost.getD (i + j) false = false) → lost.getD (i + q) false = true → ∃ r r', old.drop q = gt old q :: r ∧ ov lost i a old = a.take q ++ gt old q :: r' ∧ r.length = r'.length ∧ ∀ j, j < r.length → gt r' j = gt r j ∨ gt r' j ∈ a
  | [], old, i, q, h, hq, _, _ => by simp at hq
  | x :: xs, [], i, q, h, _, _, _ => by simp at h
  | x :: xs, o :: os, i, 0, h, hq, hl, hl2 => by
    have h' : xs.length ≤ os.length := by simpa using h
    refine ⟨os, ov lost (i + 1) xs os, rfl, ?_, (ov_len _ _ _).symm, fun j hj => ?_⟩
    · rw [ov, show lost.getD i false = true from hl2]; rfl
    · have hg := ov_get (lost := lost) xs os (i + 1) j h'
      have e1 : gt (ov lost (i + 1) xs os) j = ((ov lost (i + 1) xs os)[j]?).getD default := by unfold gt; rw [List.getD_eq_getElem?_getD]
      rw [hg] at e1
      split at e1
      · rename_i hc
        refine .inr ?_
        rw [e1, List.getElem?_eq_getElem hc.1]
        simp
      · refine .inl ?_
        rw [e1]; unfold gt; rw [List.getD_eq_getElem?_getD]
  | x :: xs, o :: os, i, q + 1, h, hq, hl, hl2 => by
    obtain ⟨r, r', k1, k2, k3, k4⟩ := ov_first xs os (i + 1) q (by simpa using h) (by simpa using hq) (fun j hj => by rw [show i + 1 + j = i + (j + 1) by omega]; exact hl (j + 1) (by omega)) (by rw [show i + 1 + q = i + (q + 1) by omega]; exact hl2)
    refine ⟨r, r', by rw [List.drop_succ_cons, gt_cons_succ]; exact k1, ?_, k3, fun j hj => (k4 j hj).imp_right fun h => by simp [h]⟩
    rw [ov, k2, show lost.getD i false = false from hl 0 (by omega), gt_cons_succ]
    simp
/-- An area: the records, and what is behind them. -/
structure Ar (e lf : Nat) (S : List Sec) (rl : LR) : Prop where
  lay : ∃ T, S = lsecs e 0 rl ++ T ∧ noRec e (lsize rl) T false (lastL 0 rl) = true ∧ ∀ j, j < T.length → staleS e lf (lsize rl + j) (gt T j)
  up : upL lf 0 rl
  short : ∀ x ∈ rl, x.2.length < 2 ^ 20
  ne : rl ≠ []
theorem dsec_life {e lf : Nat} (hl : lf ≤ 1073741824) : ∀ (f flg : Nat) (b : List UInt8) (i : Nat), flg ≤ 1 → ∀ s ∈ dsec e lf i (pcsGo f flg b), get4 s 4 = lf
  | 0, _, _, _, _, s, h => by simp [pcsGo, dsec] at h
  | f + 1, flg, b, i, hf, s, h => by
    simp only [pcsGo] at h
    split at h
    · rename_i h18
      simp only [dsec, List.mem_cons, List.not_mem_nil, or_false] at h
      rw [h, mkSec_get4 h18 (by omega)]
    · simp only [dsec, List.mem_cons] at h
      rcases h with h | h
      · rw [h, mkSec_get4 (by show (b.take 18).length ≤ 18; rw [List.length_take]; omega) (by omega)]
      · exact dsec_life hl f 0 _ _ (by omega) s h
theorem first_lost {lost : List Bool} {i : Nat} : ∀ n, (∀ j, j < n → lost.getD (i + j) false = false) ∨ ∃ q, q < n ∧ (∀ j, j < q → lost.getD (i + j) false = false) ∧ lost.getD (i + q) false = true
  | 0 => .inl fun j h => by omega
  | n + 1 => by
    rcases first_lost (lost := lost) (i := i) n with h | ⟨q, h1, h2, h3⟩
    · cases hl : lost.getD (i + n) false with
      | true => exact .inr ⟨n, by omega, h, hl⟩
      | false =>
        refine .inl fun j hj => ?_
        rcases Nat.lt_or_ge j n with h1 | h1
        · exact h j h1
        · rw [show j = n by omega]; exact hl
    · exact .inr ⟨q, by omega, h2, h3⟩
/-- What some lost writes leave of the records that are appended. -/
theorem ov_recs {e lf : Nat} {lost : List Bool} (e1 : 1 ≤ e) (e2 : e ≤ 1073741824) (l1 : 1 ≤ lf) (l2 : lf ≤ 1073741824) : ∀ (bs : LR) (i : Nat) (m life : Nat) (T : List Sec), (∀ x ∈ bs, x.1 = lf ∧ x.2.length < 2 ^ 20) → lsize bs ≤ T.length → m + T.length < 2 ^ 30 → life ≤ lf → noRec e m T false life = true → (∀ j, j < T.length → staleS e lf (m + j) (gt T j)) →
    ∃ k T', k ≤ bs.length ∧ ov lost i (lsecs e m bs) T = lsecs e m (bs.take k) ++ T' ∧ noRec e (m + lsize (bs.take k)) T' false (lastL life (bs.take k)) = true ∧
      ((∀ j, j < lsize bs → lost.getD (i + j) false = false) → k = bs.length ∧ T' = T.drop (lsize bs))
  | [], i, m, life, T, hb, hT, hm, hl, hn, hs => ⟨0, T, Nat.le_refl _, by rw [lsecs, ov_nil]; rfl, hn, fun _ => ⟨rfl, rfl⟩⟩
  | x :: bs, i, m, life, T, hb, hT, hm, hl, hn, hs => by
    obtain ⟨xl, xb⟩ := x
    obtain ⟨hx1, hx2⟩ := hb _ (List.mem_cons_self ..)
    simp only at hx1 hx2
    subst hx1
    simp only [lsize] at hT
    have hdl : (dsec e xl m (pcs xb)).length = needN xb.length := by rw [dsec_len, pcs_need]
    have hov := ov_append (lost := lost) (dsec e xl m (pcs xb)) (lsecs e (m + needN xb.length) bs) T i (by omega)
    have htk : (T.take (needN xb.length)).length = needN xb.length := by rw [List.length_take]; omega
    rcases first_lost (lost := lost) (i := i) (needN xb.length) with hall | ⟨q, hq, hq1, hq2⟩
    · -- the whole record is there
      have hd : ∀ j, j < (T.drop (needN xb.length)).length → staleS e xl (m + needN xb.length + j) (gt (T.drop (needN xb.length)) j) := fun j hj => by
        have := hs (needN xb.length + j) (by rw [List.length_drop] at hj; omega)
        rw [← Nat.add_assoc] at this
        rw [show gt (T.drop (needN xb.length)) j = gt T (needN xb.length + j) by unfold gt; rw [List.getD_eq_getElem?_getD, List.getD_eq_getElem?_getD, List.getElem?_drop]]
        exact this
      have hn2 : noRec e (m + needN xb.length) (T.drop (needN xb.length)) false xl = true := by
        cases hc : T.drop (needN xb.length) with
        | nil => rfl
        | cons s r =>
          have h0 := hd 0 (by rw [hc]; simp)
          rw [hc, gt_cons_zero, Nat.add_zero] at h0
          rw [noRec, goes_stale h0]; rfl
      obtain ⟨k, T', k1, k2, k3, k4⟩ := ov_recs e1 e2 l1 l2 bs (i + needN xb.length) (m + needN xb.length) xl (T.drop (needN xb.length)) (fun y hy => hb y (by simp [hy])) (by rw [List.length_drop]; omega) (by rw [List.length_drop]; omega) (Nat.le_refl _) hn2 hd
      refine ⟨k + 1, T', by simp; omega, ?_, ?_, fun hl => ?_⟩
      · rw [lsecs, hov, hdl, ov_all _ _ _ (by rw [hdl, htk]) (by rw [hdl]; exact hall), k2, List.take_succ_cons, lsecs, List.append_assoc]
      · rw [List.take_succ_cons, lsize, lastL, ← Nat.add_assoc]; exact k3
      · have := k4 fun j hj => by rw [Nat.add_assoc]; exact hl (needN xb.length + j) (by simp only [lsize]; omega)
        exact ⟨by rw [this.1]; rfl, by rw [this.2, List.drop_drop]; rfl⟩
    · -- a part of it is lost
      refine ⟨0, ov lost i (lsecs e m ((xl, xb) :: bs)) T, Nat.zero_le _, rfl, ?_, fun hl => ?_⟩
      · show noRec e m _ false life = true
        have hq' : q < (lsecs e m ((xl, xb) :: bs)).length := by rw [lsecs_len, lsize]; show q < needN xb.length + _; omega
        obtain ⟨r, r', k1, k2, k3, k4⟩ := ov_first (lost := lost) (lsecs e m ((xl, xb) :: bs)) T i q (by rw [lsecs_len]; simp only [lsize]; omega) hq' hq1 hq2
        rw [k2, lsecs, List.take_append_of_le_length (by rw [hdl]; omega)]
        have hqT : q < T.length := by omega
        by_cases h0 : q = 0
        · subst h0
          rw [List.drop_zero] at k1
          rw [List.take_zero, List.nil_append]
          refine noRec_mix0 (L := xl) (r := r) k3 (by rw [← k1]; exact hn) (fun j hj => (k4 j hj).imp_right fun hm => ?_) (by rw [← k1]; exact hs)
          have key : ∀ (l : LR) (m : Nat), (∀ x ∈ l, x.1 = xl) → ∀ s ∈ lsecs e m l, get4 s 4 = xl := by
            intro l
            induction l with
            | nil => intro m _ s h; simp [lsecs] at h
            | cons y l ih =>
              intro m hy s h
              rw [lsecs, List.mem_append] at h
              rcases h with h | h
              · have := dsec_life (e := e) (lf := y.1) (by rw [hy y (by simp)]; exact l2) _ 1 y.2 m (Nat.le_refl _) s h
                rw [this]; exact hy y (by simp)
              · exact ih _ (fun x hx => hy x (by simp [hx])) s h
          exact key _ _ (fun x hx => (hb x hx).1) _ hm
        · have := part_scan (e := e) (lf := xl) e1 e2 l1 l2 (xb.length + 1) 1 xb m life q (gt T q) r' (Nat.lt_succ_self _) (Nat.le_refl _) (by omega) hl (by intro h; cases h) (by have hp : (pcsGo (xb.length + 1) 1 xb).length = needN xb.length := pcs_need xb; omega) (by omega) (hs q hqT)
          exact this
      · have := hl q (by simp only [lsize]; omega)
        rw [this] at hq2; cases hq2
/-- What is read of an area. -/
theorem Ar.recs {e lf : Nat} {S : List Sec} {rl : LR} (h : Ar e lf S rl) (e1 : 1 ≤ e) (e2 : e ≤ 1073741824) (l2 : lf ≤ 1073741824) (hS : S.length < 2 ^ 30) : recs S = (rl.map (·.2), lsize rl) ∧ epochOf S = e := by
  obtain ⟨T, k1, k2, k3⟩ := h.lay
  have he : epochOf S = e := by
    rw [k1]
    match rl, h.ne, h.up, h.short with
    | x :: r, _, hu, hx =>
      have := hx x (by simp)
      have hl := upL_le r _ hu.2.2
      rw [lsecs]
      unfold pcs
      rw [pcsGo]
      split
      · rename_i h18
        exact mkSec_get0 h18 (by omega)
      · rw [dsec]
        exact mkSec_get0 (by show (x.2.take 18).length ≤ 18; rw [List.length_take]; omega) (by omega)
  refine ⟨?_, he⟩
  have hl : lsize rl ≤ S.length := by rw [k1, List.length_append, lsecs_len]; omega
  unfold Go.Proofs.Ytdddehniepofmaa.Fn.recs
  rw [he]
  have := lsecs_scan (e := e) (b := lf) e1 e2 l2 rl 0 0 [] T (by omega) h.short h.up
  rw [k1, this, Nat.zero_add, List.nil_append]
  exact recGo_noRec _ _ _ _ _ _ _ k2
end Go.Proofs.Ytdddehniepofmaa.Fn
namespace Go.Proofs.Ytdddehniepofmaa.Fn
open Go.AM Go.AM.Sym
set_option maxRecDepth 100000
set_option linter.unusedVariables false
set_option linter.unusedSimpArgs false
set_option maxHeartbeats 4000000

def areaOf (safe : List Sec) (a : Nat) : List Sec := (safe.drop (a * (safe.length / 2))).take (safe.length / 2)
theorem areaOf_len {safe : List Sec} {a : Nat} (h : a ≤ 1) : (areaOf safe a).length = safe.length / 2 := by
  unfold areaOf
  rw [List.length_take, List.length_drop]
  rcases (show a = 0 ∨ a = 1 by omega) with rfl | rfl <;> omega
theorem areaD_of {pend : List Wr} {safe : List Sec} {a : Nat} : areaD pend safe a = areaOf (crashed [] pend safe) a := by
  unfold areaD areaOf readD
  rw [crashed_len]
theorem areaOf_get {safe : List Sec} {a j : Nat} (hj : j < safe.length / 2) : (areaOf safe a)[j]? = safe[a * (safe.length / 2) + j]? := by
  unfold areaOf
  rw [List.getElem?_take, if_pos hj, List.getElem?_drop]
theorem crashGo_same {lost : List Bool} {base e lf : Nat} : ∀ (r : List (Nat × List UInt8)) (n i : Nat) (s : List Sec) (k : Nat), k < r.length → base + n + r.length ≤ s.length → (crashGo lost i (wrsOf base e lf n r) s)[base + n + k]? = if lost.getD (i + k) false = false then (dsec e lf n r)[k]? else s[base + n + k]?
  | [], n, i, s, k, h, _ => by simp at h
  | x :: r, n, i, s, 0, h, hs => by
    have hl : (x :: r).length = r.length + 1 := rfl
    rw [wrsOf, crashGo, Nat.add_zero, Nat.add_zero, crashGo_wrsOf_other r (n + 1) (i + 1) _ _ (by omega), dsec]
    have hh : hasA s.length ((base + n : Nat) : Int) = true := by unfold hasA; rw [decide_eq_true_eq]; omega
    rw [hh]
    cases hl : lost.getD i false with
    | true => simp
    | false =>
      simp only [Bool.not_false, Bool.and_self, if_true, Int.toNat_natCast]
      show (s.set (base + n) (mkSec e lf n x))[base + n]? = _
      rw [List.getElem?_set_self (by omega)]
      rfl
  | x :: r, n, i, s, k + 1, h, hs => by
    have hl : (x :: r).length = r.length + 1 := rfl
    rw [wrsOf, crashGo, dsec, List.getElem?_cons_succ]
    have := crashGo_same (lost := lost) (base := base) (e := e) (lf := lf) r (n + 1) (i + 1) (if hasA s.length ((base + n : Nat) : Int) && !lost.getD i false then s.set ((base + n : Nat) : Int).toNat (mkSec e lf n x) else s) k (by omega) (by
      have hle : (if hasA s.length ((base + n : Nat) : Int) && !lost.getD i false then s.set ((base + n : Nat) : Int).toNat (mkSec e lf n x) else s).length = s.length := by
        split
        · rw [List.length_set]
        · rfl
      rw [hle]; omega)
    rw [show base + (n + 1) + k = base + n + (k + 1) by omega, show i + 1 + k = i + (k + 1) by omega] at this
    simp only at this ⊢
    rw [this]
    split
    · rfl
    · split
      · rw [List.getElem?_set_ne (by simp only [Int.toNat_natCast]; omega)]
      · rfl
theorem crash_area {lost : List Bool} {area e lf m : Nat} {r : List (Nat × List UInt8)} {safe : List Sec} (har : area ≤ 1) (hm : m + r.length ≤ safe.length / 2) :
    areaOf (crashed lost (wrsOf (area * (safe.length / 2)) e lf m r) safe) area = (areaOf safe area).take m ++ ov lost 0 (dsec e lf m r) ((areaOf safe area).drop m) := by
  have hb : area * (safe.length / 2) + safe.length / 2 ≤ safe.length := by rcases (show area = 0 ∨ area = 1 by omega) with rfl | rfl <;> omega
  have hl := areaOf_len (safe := safe) har
  apply List.ext_getElem?
  intro j
  by_cases hj : j < safe.length / 2
  · rw [areaOf_get (by rw [crashed_len]; exact hj), crashed_len]
    by_cases h1 : j < m
    · rw [List.getElem?_append_left (by rw [List.length_take]; omega), List.getElem?_take, if_pos h1, areaOf_get hj]
      exact crashGo_wrsOf_other r m 0 safe _ (by omega)
    · rw [List.getElem?_append_right (by rw [List.length_take]; omega), List.length_take, hl, Nat.min_eq_left (by omega), ov_get _ _ _ _ (by rw [dsec_len, List.length_drop]; omega), dsec_len, List.getElem?_drop, Nat.add_sub_cancel' (by omega), areaOf_get hj, Nat.zero_add]
      by_cases h2 : j - m < r.length
      · have := crashGo_same (lost := lost) (base := area * (safe.length / 2)) (e := e) (lf := lf) r m 0 safe (j - m) h2 (by omega)
        rw [show area * (safe.length / 2) + m + (j - m) = area * (safe.length / 2) + j by omega, Nat.zero_add] at this
        unfold crashed
        rw [this]
        simp only [h2, true_and]
      · rw [if_neg (by omega)]
        exact crashGo_wrsOf_other r m 0 safe _ (by omega)
  · rw [List.getElem?_eq_none (by rw [areaOf_len har, crashed_len]; omega), List.getElem?_eq_none (by rw [List.length_append, List.length_take, ov_len, List.length_drop]; omega)]
theorem crash_other {lost : List Bool} {area e lf m : Nat} {r : List (Nat × List UInt8)} {safe : List Sec} (har : area ≤ 1) (hm : m + r.length ≤ safe.length / 2) :
    areaOf (crashed lost (wrsOf (area * (safe.length / 2)) e lf m r) safe) (1 - area) = areaOf safe (1 - area) := by
  apply List.ext_getElem?
  intro j
  by_cases hj : j < safe.length / 2
  · rw [areaOf_get (by rw [crashed_len]; exact hj), crashed_len, areaOf_get hj]
    refine crashGo_wrsOf_other r m 0 safe _ ?_
    rcases (show area = 0 ∨ area = 1 by omega) with rfl | rfl
    · simp only [Nat.sub_zero, Nat.one_mul, Nat.zero_mul]; omega
    · simp only [Nat.sub_self, Nat.one_mul, Nat.zero_mul]; omega
  · rw [List.getElem?_eq_none (by rw [areaOf_len (by omega), crashed_len]; omega), List.getElem?_eq_none (by rw [areaOf_len (by omega)]; omega)]

/-- The pieces of some records. -/
def apcs (bs : LR) : List (Nat × List UInt8) := bs.flatMap fun x => pcs x.2
theorem apcs_len : ∀ (bs : LR), (apcs bs).length = lsize bs
  | [] => rfl
  | x :: bs => by
    have := apcs_len bs
    unfold apcs at this ⊢
    rw [List.flatMap_cons, List.length_append, this, pcs_need, lsize]
theorem apcs_secs {e lf : Nat} : ∀ (bs : LR) (m : Nat), (∀ x ∈ bs, x.1 = lf) → dsec e lf m (apcs bs) = lsecs e m bs
  | [], m, _ => rfl
  | x :: bs, m, h => by
    have := apcs_secs (e := e) (lf := lf) bs (m + needN x.2.length) fun y hy => h y (by simp [hy])
    unfold apcs at this ⊢
    rw [List.flatMap_cons, dsec_append, pcs_need, this, lsecs, h x (by simp)]
theorem apcs_snoc {bs : LR} {x : Nat × List UInt8} : apcs (bs ++ [x]) = apcs bs ++ pcs x.2 := by simp [apcs]
/-- What is marked has no greater epoch, nor a greater life. -/
def MarkedIn (S : List Sec) (eb lf : Nat) : Prop := ∀ j, j < S.length → sMarked (gt S j) j = true → get4 (gt S j) 0 < eb ∧ get4 (gt S j) 4 ≤ lf
theorem MarkedIn.mono {S : List Sec} {eb eb' lf lf' : Nat} (h : MarkedIn S eb lf) (he : eb ≤ eb') (hl : lf ≤ lf') : MarkedIn S eb' lf' := fun j hj hm => by
  have := h j hj hm; omega
theorem lsecs_mark {e lf : Nat} (e2 : e ≤ 1073741824) (l2 : lf ≤ 1073741824) : ∀ (f flg : Nat) (b : List UInt8) (i : Nat), flg ≤ 1 → ∀ s ∈ dsec e lf i (pcsGo f flg b), get4 s 0 = e ∧ get4 s 4 = lf
  | 0, _, _, _, _, s, h => by simp [pcsGo, dsec] at h
  | f + 1, flg, b, i, hf, s, h => by
    simp only [pcsGo] at h
    split at h
    · rename_i h18
      simp only [dsec, List.mem_cons, List.not_mem_nil, or_false] at h
      rw [h, mkSec_get4 h18 (by omega), mkSec_get0 h18 (by omega)]
      exact ⟨rfl, rfl⟩
    · have ht : (flg, b.take 18).2.length ≤ 18 := by show (b.take 18).length ≤ 18; rw [List.length_take]; omega
      simp only [dsec, List.mem_cons] at h
      rcases h with h | h
      · rw [h, mkSec_get4 ht (by omega), mkSec_get0 ht (by omega)]
        exact ⟨rfl, rfl⟩
      · exact lsecs_mark e2 l2 f 0 _ _ (by omega) s h
theorem alsecs_mark {e lf : Nat} (e2 : e ≤ 1073741824) (l2 : lf ≤ 1073741824) : ∀ (bs : LR) (i : Nat), (∀ x ∈ bs, x.1 = lf) → ∀ s ∈ lsecs e i bs, get4 s 0 = e ∧ get4 s 4 = lf
  | [], i, _, s, h => by simp [lsecs] at h
  | x :: bs, i, hb, s, h => by
    rw [lsecs, List.mem_append, hb x (by simp)] at h
    rcases h with h | h
    · exact lsecs_mark e2 l2 _ 1 _ _ (Nat.le_refl _) s h
    · exact alsecs_mark e2 l2 bs _ (fun y hy => hb y (by simp [hy])) s h
/-- The last life is that of a marked sector. -/
theorem last_marked {e b : Nat} (e1 : 1 ≤ e) (e2 : e ≤ 1073741824) (hb : b ≤ 1073741824) : ∀ (rl : LR) (i l : Nat), i + lsize rl < 2 ^ 30 → (∀ x ∈ rl, x.2.length < 2 ^ 20) → upL b l rl → rl ≠ [] → ∃ j, j < (lsecs e i rl).length ∧ sMarked (gt (lsecs e i rl) j) (i + j) = true ∧ get4 (gt (lsecs e i rl) j) 4 = lastL l rl
  | [], i, l, _, _, _, h => absurd rfl h
  | x :: rl, i, l, hi, hx, hu, _ => by
    have hlen : (dsec e x.1 i (pcs x.2)).length = needN x.2.length := by rw [dsec_len, pcs_need]
    simp only [lsize] at hi
    cases rl with
    | nil =>
      have h1 : x.1 ≤ b := hu.2.2
      have hpos : 0 < needN x.2.length := by unfold needN; omega
      refine ⟨0, by rw [lsecs_len, lsize]; omega, ?_⟩
      rw [lsecs, gt_append_left (by omega)]
      show sMarked (gt (dsec e x.1 i (pcsGo (x.2.length + 1) 1 x.2)) 0) (i + 0) = true ∧ get4 (gt (dsec e x.1 i (pcsGo (x.2.length + 1) 1 x.2)) 0) 4 = x.1
      rw [pcsGo]
      have := hu.2.1
      split
      · rename_i h18
        rw [dsec, gt_cons_zero]
        exact ⟨mkSec_marked h18 (by show 1 + 2 ≤ 3; omega) (by show 1 + 2 < 2 → _; omega) e1 e2 hu.2.1 (by omega) (by omega), mkSec_get4 h18 (by omega)⟩
      · have ht : (x.2.take 18).length = 18 := by rw [List.length_take]; omega
        rw [dsec, gt_cons_zero]
        exact ⟨mkSec_marked (by show (x.2.take 18).length ≤ 18; omega) (by show 1 ≤ 3; omega) (fun _ => ht) e1 e2 hu.2.1 (by omega) (by omega), mkSec_get4 (by show (x.2.take 18).length ≤ 18; omega) (by omega)⟩
    | cons y rl =>
      obtain ⟨j, h1, h2, h3⟩ := last_marked e1 e2 hb (y :: rl) (i + needN x.2.length) x.1 (by omega) (fun z hz => hx z (by simp [hz])) hu.2.2 (by simp)
      refine ⟨needN x.2.length + j, by rw [lsecs, List.length_append, hlen]; omega, ?_⟩
      rw [lsecs, ← hlen, gt_append_len, hlen]
      exact ⟨by rw [← Nat.add_assoc]; exact h2, h3⟩
end Go.Proofs.Ytdddehniepofmaa.Fn
namespace Go.Proofs.Ytdddehniepofmaa.Fn
open Go.AM Go.AM.Sym
set_option maxRecDepth 100000
set_option linter.unusedVariables false
set_option linter.unusedSimpArgs false
set_option maxHeartbeats 4000000

/-- A disk with a journal: its area, epoch and life, and the records that are safe. -/
structure KD (area e lf : Nat) (safe : List Sec) (rl : LR) : Prop where
  ar : Ar e lf (areaOf safe area) rl
  cur : MarkedIn (areaOf safe area) (e + 1) lf
  oth : MarkedIn (areaOf safe (1 - area)) e lf
  e1 : 1 ≤ e
  e2 : e ≤ 1073741824
  l1 : 1 ≤ lf
  l2 : lf ≤ 1073741824
  a1 : area ≤ 1
  sz : safe.length < 2 ^ 20
/-- As it is when it is opened: what is behind the records may be as new as they. -/
structure KO (area e lf : Nat) (safe : List Sec) (rl : LR) : Prop where
  lay : ∃ T, areaOf safe area = lsecs e 0 rl ++ T ∧ noRec e (lsize rl) T false (lastL 0 rl) = true
  up : upL lf 0 rl
  short : ∀ x ∈ rl, x.2.length < 2 ^ 20
  ne : rl ≠ []
  cur : MarkedIn (areaOf safe area) (e + 1) lf
  oth : MarkedIn (areaOf safe (1 - area)) e lf
  e1 : 1 ≤ e
  e2 : e ≤ 1073741824
  l1 : 1 ≤ lf
  l2 : lf ≤ 1073741824
  a1 : area ≤ 1
  sz : safe.length < 2 ^ 20
theorem KD.ko {area e lf : Nat} {safe : List Sec} {rl : LR} (h : KD area e lf safe rl) : KO area e lf safe rl := by
  obtain ⟨T, k1, k2, _⟩ := h.ar.lay
  exact ⟨⟨T, k1, k2⟩, h.ar.up, h.ar.short, h.ar.ne, h.cur, h.oth, h.e1, h.e2, h.l1, h.l2, h.a1, h.sz⟩
theorem KD.recs {area e lf : Nat} {safe : List Sec} {rl : LR} (h : KD area e lf safe rl) : recs (areaOf safe area) = (rl.map (·.2), lsize rl) :=
  (h.ar.recs h.e1 h.e2 h.l2 (by rw [areaOf_len h.a1]; have := h.sz; omega)).1
theorem upL_appendAll {b : Nat} : ∀ (bs rl : LR) (l : Nat), upL b l rl → (∀ x ∈ bs, x.1 = b) → 1 ≤ b → upL b l (rl ++ bs)
  | [], rl, l, h, _, _ => by rw [List.append_nil]; exact h
  | x :: bs, rl, l, h, hx, hb => by
    have e1 : rl ++ x :: bs = (rl ++ [x]) ++ bs := by simp
    rw [e1]
    refine upL_appendAll bs _ l (upL_append rl l x ?_ (by rw [hx x (by simp)]; exact hb) (by rw [hx x (by simp)]; exact Nat.le_refl _)) (fun y hy => hx y (by simp [hy])) hb
    rw [hx x (by simp)]; exact h
theorem lastL_appendAll : ∀ (rl bs : LR) (l : Nat), lastL l (rl ++ bs) = lastL (lastL l rl) bs
  | [], bs, l => rfl
  | x :: rl, bs, l => by rw [List.cons_append, lastL, lastL_appendAll rl bs]; rfl
theorem mem_of_ov {lost : List Bool} {a old : List Sec} {i j : Nat} (hl : a.length ≤ old.length) (hj : j < old.length) : gt (ov lost i a old) j = gt old j ∨ gt (ov lost i a old) j ∈ a := by
  have hg := ov_get (lost := lost) a old i j hl
  have e1 : gt (ov lost i a old) j = ((ov lost i a old)[j]?).getD default := by unfold gt; rw [List.getD_eq_getElem?_getD]
  rw [hg] at e1
  split at e1
  · rename_i hc
    refine .inr ?_
    rw [e1, List.getElem?_eq_getElem hc.1]
    simp
  · refine .inl ?_
    rw [e1]; unfold gt; rw [List.getD_eq_getElem?_getD]
/-- The disk crashes. -/
theorem KD.crash {area e lf : Nat} {safe : List Sec} {rl bs : LR} {lost : List Bool} (h : KD area e lf safe rl) (hb : ∀ x ∈ bs, x.1 = lf ∧ x.2.length < 2 ^ 20) (hm : lsize rl + lsize bs ≤ safe.length / 2) :
    ∃ k, k ≤ bs.length ∧ KO area e lf (crashed lost (wrsOf (area * (safe.length / 2)) e lf (lsize rl) (apcs bs)) safe) (rl ++ bs.take k) ∧
      ((∀ j, j < lsize bs → lost.getD j false = false) → k = bs.length ∧ KD area e lf (crashed lost (wrsOf (area * (safe.length / 2)) e lf (lsize rl) (apcs bs)) safe) (rl ++ bs)) := by
  have a1 := h.a1
  have hsz := h.sz
  have e1 := h.e1
  have e2 := h.e2
  have l1 := h.l1
  have l2 := h.l2
  obtain ⟨T, k1, k2, k3⟩ := h.ar.lay
  have hlA := areaOf_len (safe := safe) a1
  have hlT : lsize rl + T.length = safe.length / 2 := by rw [← hlA, k1, List.length_append, lsecs_len]
  have hA := crash_area (lost := lost) (e := e) (lf := lf) (m := lsize rl) (r := apcs bs) (safe := safe) a1 (by rw [apcs_len]; exact hm)
  have hO := crash_other (lost := lost) (e := e) (lf := lf) (m := lsize rl) (r := apcs bs) (safe := safe) a1 (by rw [apcs_len]; exact hm)
  have hcl : (crashed lost (wrsOf (area * (safe.length / 2)) e lf (lsize rl) (apcs bs)) safe).length = safe.length := crashed_len
  generalize crashed lost (wrsOf (area * (safe.length / 2)) e lf (lsize rl) (apcs bs)) safe = safe' at hA hO hcl ⊢
  rw [apcs_secs bs _ fun x hx => (hb x hx).1] at hA
  have hdrop : (areaOf safe area).drop (lsize rl) = T := by rw [k1]; rw [← lsecs_len (e := e) rl 0, List.drop_left]
  have htake : (areaOf safe area).take (lsize rl) = lsecs e 0 rl := by rw [k1]; rw [← lsecs_len (e := e) rl 0, List.take_left]
  rw [hdrop, htake] at hA
  obtain ⟨q1, q2⟩ := upL_last rl 0 h.ar.up
  obtain ⟨k, T', p1, p2, p3, p4⟩ := ov_recs (lost := lost) e1 e2 l1 l2 bs 0 (lsize rl) (lastL 0 rl) T hb (by omega) (by omega) q2 k2 k3
  have hsh : ∀ n, ∀ x ∈ rl ++ bs.take n, x.2.length < 2 ^ 20 := fun n x hx => by
    rcases List.mem_append.1 hx with hx | hx
    · exact h.ar.short x hx
    · exact (hb x (List.mem_of_mem_take hx)).2
  have hup : ∀ n, upL lf 0 (rl ++ bs.take n) := fun n => upL_appendAll _ _ _ h.ar.up (fun x hx => (hb x (List.mem_of_mem_take hx)).1) l1
  have hne : ∀ n, rl ++ bs.take n ≠ [] := fun n hh => h.ar.ne (by simp at hh; exact hh.1)
  have hcur : MarkedIn (areaOf safe' area) (e + 1) lf := fun j hj hmk => by
    have hj' : j < safe.length / 2 := by rw [areaOf_len a1, hcl] at hj; exact hj
    rw [hA] at hmk ⊢
    rcases Nat.lt_or_ge j (lsize rl) with hlt | hge
    · have e3 : gt (lsecs e 0 rl ++ ov lost 0 (lsecs e (lsize rl) bs) T) j = gt (areaOf safe area) j := by
        rw [k1, gt_append_left (by rw [lsecs_len]; exact hlt), gt_append_left (by rw [lsecs_len]; exact hlt)]
      rw [e3] at hmk ⊢
      exact h.cur j (by rw [hlA]; exact hj') hmk
    · obtain ⟨d, rfl⟩ : ∃ d, j = lsize rl + d := ⟨j - lsize rl, by omega⟩
      have e3 : gt (lsecs e 0 rl ++ ov lost 0 (lsecs e (lsize rl) bs) T) (lsize rl + d) = gt (ov lost 0 (lsecs e (lsize rl) bs) T) d := by
        rw [← lsecs_len (e := e) rl 0, gt_append_len]
      rw [e3] at hmk ⊢
      rcases mem_of_ov (lost := lost) (a := lsecs e (lsize rl) bs) (old := T) (i := 0) (j := d) (by rw [lsecs_len]; omega) (by omega) with hm1 | hm1
      · rw [hm1] at hmk ⊢
        have e4 : gt (areaOf safe area) (lsize rl + d) = gt T d := by rw [k1, ← lsecs_len (e := e) rl 0, gt_append_len]
        have := h.cur (lsize rl + d) (by rw [hlA]; exact hj')
        rw [e4] at this
        exact this hmk
      · have := alsecs_mark e2 l2 bs _ (fun x hx => (hb x hx).1) _ hm1
        omega
  have hoth : MarkedIn (areaOf safe' (1 - area)) e lf := by rw [hO]; exact h.oth
  have hls : ∀ n, lsize (rl ++ bs.take n) = lsize rl + lsize (bs.take n) := fun n => lsize_append _ _
  refine ⟨k, p1, ⟨⟨T', ?_, ?_⟩, hup k, hsh k, hne k, hcur, hoth, e1, e2, l1, l2, a1, by omega⟩, fun hl => ?_⟩
  · rw [hA, p2, lsecs_append, Nat.zero_add, List.append_assoc]
  · rw [hls, lastL_appendAll]; exact p3
  · obtain ⟨r1, r2⟩ := p4 fun j hj => by rw [Nat.zero_add]; exact hl j hj
    refine ⟨r1, ?_⟩
    have hfull : bs.take k = bs := by rw [r1]; exact List.take_length
    have hk := hls k
    have hup' := hup k
    have hsh' := hsh k
    have hne' := hne k
    rw [hfull] at p2 p3 hk hup' hsh' hne'
    refine ⟨⟨⟨T', ?_, ?_, fun j hj => ?_⟩, hup', hsh', hne'⟩, hcur, hoth, e1, e2, l1, l2, a1, by omega⟩
    · rw [hA, p2, lsecs_append, Nat.zero_add, List.append_assoc]
    · rw [hk, lastL_appendAll]; exact p3
    · rw [hk]
      have := k3 (lsize bs + j) (by rw [r2, List.length_drop] at hj; omega)
      rw [← Nat.add_assoc] at this
      rw [r2, show gt (T.drop (lsize bs)) j = gt T (lsize bs + j) by unfold gt; rw [List.getD_eq_getElem?_getD, List.getD_eq_getElem?_getD, List.getElem?_drop]]
      exact this
/-- All is synced. -/
theorem KD.sync {area e lf : Nat} {safe : List Sec} {rl bs : LR} (h : KD area e lf safe rl) (hb : ∀ x ∈ bs, x.1 = lf ∧ x.2.length < 2 ^ 20) (hm : lsize rl + lsize bs ≤ safe.length / 2) : KD area e lf (crashed [] (wrsOf (area * (safe.length / 2)) e lf (lsize rl) (apcs bs)) safe) (rl ++ bs) := by
  obtain ⟨k, _, _, h3⟩ := h.crash (lost := []) hb hm
  exact (h3 fun j _ => by simp).2

/-! ### The greatest life -/
theorem grGo_ge : ∀ (a : List Sec) (i : Nat) (x : Nat × Nat), x.2 ≤ (grGo i a x).2 ∧ ∀ j, j < a.length → sMarked (gt a j) (i + j) = true → get4 (gt a j) 4 ≤ (grGo i a x).2
  | [], i, x => ⟨Nat.le_refl _, fun j h => by simp at h⟩
  | s :: r, i, x => by
    rw [grGo]
    obtain ⟨h1, h2⟩ := grGo_ge r (i + 1) (if sMarked s i then (max x.1 (get4 s 0), max x.2 (get4 s 4)) else x)
    refine ⟨Nat.le_trans ?_ h1, fun j hj hm => ?_⟩
    · split
      · exact Nat.le_max_left _ _
      · exact Nat.le_refl _
    · match j, hj, hm with
      | 0, hj, hm =>
        rw [gt_cons_zero, Nat.add_zero] at hm
        rw [gt_cons_zero]
        rw [if_pos hm] at h1 ⊢
        exact Nat.le_trans (Nat.le_max_right x.2 _) h1
      | j + 1, hj, hm =>
        rw [gt_cons_succ] at hm ⊢
        exact h2 j (by simpa using hj) (by rw [show i + 1 + j = i + (j + 1) by omega]; exact hm)
theorem grGo_le {b : Nat} : ∀ (a : List Sec) (i : Nat) (x : Nat × Nat), x.2 ≤ b → (∀ j, j < a.length → sMarked (gt a j) (i + j) = true → get4 (gt a j) 4 ≤ b) → (grGo i a x).2 ≤ b
  | [], i, x, h, _ => h
  | s :: r, i, x, h, ha => by
    rw [grGo]
    refine grGo_le r (i + 1) _ ?_ fun j hj hm => ?_
    · split
      · rename_i hm
        exact Nat.max_le.2 ⟨h, ha 0 (by simp) hm⟩
      · exact h
    · have := ha (j + 1) (by simpa using hj)
      rw [gt_cons_succ] at this
      exact this (by rw [show i + (j + 1) = i + 1 + j by omega]; exact hm)
theorem readD_nil {safe : List Sec} : crashed [] [] safe = safe := rfl
theorem opA_of {safe : List Sec} : opA safe = areaOf safe 0 := by unfold opA; rw [areaD_of, readD_nil]
theorem opB_of {safe : List Sec} : opB safe = areaOf safe 1 := by unfold opB; rw [areaD_of, readD_nil]
/-- An area's records are of its first sector's epoch. -/
theorem other_epoch {a : List Sec} {e lf : Nat} (h : MarkedIn a e lf) (hr : 0 < (recs a).1.length) : epochOf a < e := by
  match a, h, hr with
  | [], _, hr => simp [recs, recGo] at hr
  | s :: r, h, hr =>
    unfold recs at hr
    rw [recGo] at hr
    split at hr
    · rename_i hg
      simp only [goesOn, Bool.and_eq_true, decide_eq_true_eq] at hg
      exact (h 0 (by simp) hg.1.1.1.1).1
    · simp at hr
theorem opStep_take {i : Nat} {a : List Sec} {x : OpS} (h1 : 0 < (recs a).1.length) (h2 : x.1 = false ∨ x.2.2.1 < epochOf a) : opStep i a x = (true, i, epochOf a, (recs a).2) := by
  unfold opStep opTake
  rw [if_pos]
  rcases h2 with h2 | h2 <;> simp [h1, h2]
theorem opStep_leave {i : Nat} {a : List Sec} {x : OpS} (h : 0 < (recs a).1.length → x.1 = true ∧ ¬ x.2.2.1 < epochOf a) : opStep i a x = x := by
  unfold opStep opTake
  by_cases h1 : 0 < (recs a).1.length
  · have := h h1
    rw [if_neg]
    simp [h1, this]
  · rw [if_neg]
    simp only [h1, decide_false, Bool.false_and]
    decide
/-- What Open finds. -/
theorem KO.opened {area e lf : Nat} {safe : List Sec} {rl : LR} (h : KO area e lf safe rl) : opX safe = (true, area, e, lsize rl) ∧ (opG safe).2 ≤ lf ∧ ((opG safe).2 < 1073741824 → KD area e ((opG safe).2 + 1) safe rl) := by
  have a1 := h.a1
  have e1 := h.e1
  have e2 := h.e2
  have l2 := h.l2
  have hsz := h.sz
  obtain ⟨T, k1, k2⟩ := h.lay
  have hlA := areaOf_len (safe := safe) a1
  have hlO := areaOf_len (safe := safe) (a := 1 - area) (by omega)
  have hll : lsize rl ≤ safe.length / 2 := by rw [← hlA, k1, List.length_append, lsecs_len]; omega
  -- the bounds of the greatest life
  have hgA : ∀ a, a ≤ 1 → ∀ j, j < (areaOf safe a).length → sMarked (gt (areaOf safe a) j) j = true → get4 (gt (areaOf safe a) j) 4 ≤ (opG safe).2 := fun a ha j hj hm => by
    unfold opG
    rw [opA_of, opB_of]
    rcases (show a = 0 ∨ a = 1 by omega) with rfl | rfl
    · exact Nat.le_trans ((grGo_ge (areaOf safe 0) 0 (0, 0)).2 j hj (by rw [Nat.zero_add]; exact hm)) (grGo_ge _ _ _).1
    · exact (grGo_ge (areaOf safe 1) 0 _).2 j hj (by rw [Nat.zero_add]; exact hm)
  have hle : ∀ a, a ≤ 1 → ∀ j, j < (areaOf safe a).length → sMarked (gt (areaOf safe a) j) (0 + j) = true → get4 (gt (areaOf safe a) j) 4 ≤ lf := fun a ha j hj hm => by
    rw [Nat.zero_add] at hm
    rcases (show a = area ∨ a = 1 - area by omega) with rfl | rfl
    · exact (h.cur j hj hm).2
    · exact (h.oth j hj hm).2
  have hg : (opG safe).2 ≤ lf := by
    unfold opG
    rw [opA_of, opB_of]
    exact grGo_le _ _ _ (grGo_le _ _ _ (Nat.zero_le _) (hle 0 (by omega))) (hle 1 (by omega))
  -- the last life is among them
  obtain ⟨j, j1, j2, j3⟩ := last_marked e1 e2 l2 rl 0 0 (by omega) h.short h.up h.ne
  have hlast : lastL 0 rl ≤ (opG safe).2 := by
    have := hgA area a1 j (by rw [k1, List.length_append]; omega)
    rw [k1, gt_append_left j1, j3] at this
    rw [Nat.zero_add] at j2
    exact this j2
  obtain ⟨u1, u2⟩ := upL_last rl 0 h.up
  have hAr : Ar e ((opG safe).2 + 1) (areaOf safe area) rl := ⟨⟨T, k1, k2, fun j hj hm _ => by
    have := hgA area a1 (lsize rl + j) (by rw [k1, List.length_append, lsecs_len]; omega)
    have e3 : gt (areaOf safe area) (lsize rl + j) = gt T j := by rw [k1, ← lsecs_len (e := e) rl 0, gt_append_len]
    rw [e3] at this
    have := this hm
    omega⟩, upL_mono (by omega) _ _ u1, h.short, h.ne⟩
  have hrec : recs (areaOf safe area) = (rl.map (·.2), lsize rl) ∧ epochOf (areaOf safe area) = e := by
    rcases Nat.lt_or_ge (opG safe).2 1073741824 with hb | hb
    · exact hAr.recs e1 e2 (by omega) (by omega)
    · have hlf : (opG safe).2 = 1073741824 := by omega
      -- the greatest life there is: the records are read all the same
      have he : lastL 0 rl ≤ 1073741824 := by omega
      have hl := lsecs_scan (e := e) (b := lastL 0 rl) e1 e2 he rl 0 0 [] T (by omega) h.short u1
      have hep : epochOf (areaOf safe area) = e := by
        rw [k1]
        match rl, h.ne, h.up, h.short with
        | x :: r, _, hu, hx =>
          rw [lsecs]
          unfold pcs
          rw [pcsGo]
          split
          · rename_i h18
            exact mkSec_get0 h18 (by omega)
          · rw [dsec]
            exact mkSec_get0 (by show (x.2.take 18).length ≤ 18; rw [List.length_take]; omega) (by omega)
      refine ⟨?_, hep⟩
      unfold Go.Proofs.Ytdddehniepofmaa.Fn.recs
      rw [hep, k1, hl, Nat.zero_add, List.nil_append]
      exact recGo_noRec _ _ _ _ _ _ _ k2
  have hpos : 0 < (recs (areaOf safe area)).1.length := by
    rw [hrec.1]
    have := List.length_pos_iff.2 h.ne
    simpa using this
  have hoe := other_epoch h.oth
  refine ⟨?_, hg, fun hb => ⟨hAr, fun j hj hm => ?_, fun j hj hm => ?_, e1, e2, by omega, by omega, a1, hsz⟩⟩
  · unfold opX
    rw [opA_of, opB_of]
    rcases (show area = 0 ∨ area = 1 by omega) with rfl | rfl
    · rw [opStep_take hpos (.inl rfl), opStep_leave, hrec.1, hrec.2]
      intro hr
      refine ⟨rfl, ?_⟩
      have := hoe hr
      rw [hrec.2]
      simp only [Nat.sub_zero] at this ⊢
      omega
    · rw [opStep_take (a := areaOf safe 1) hpos, hrec.1, hrec.2]
      by_cases hr : 0 < (recs (areaOf safe 0)).1.length
      · rw [opStep_take hr (.inl rfl), hrec.2]
        exact .inr (hoe hr)
      · rw [opStep_leave fun h => absurd h hr]
        exact .inl rfl
  · exact ⟨(h.cur j hj hm).1, Nat.le_succ_of_le (hgA area a1 j hj hm)⟩
  · exact ⟨(h.oth j hj hm).1, Nat.le_succ_of_le (hgA (1 - area) (by omega) j hj hm)⟩

/-! ### A record in an area of its own -/
theorem KD.fresh {area e lf : Nat} {safe : List Sec} {b : List UInt8} (e1 : 1 ≤ e) (e2 : e ≤ 1073741824) (l1 : 1 ≤ lf) (l2 : lf ≤ 1073741824) (a1 : area ≤ 1) (hsz : safe.length < 2 ^ 20) (hA : MarkedIn (areaOf safe area) e lf) (hO : MarkedIn (areaOf safe (1 - area)) e lf) (hb : needN b.length ≤ safe.length / 2) (hbl : b.length < 2 ^ 20) :
    KD area e lf (crashed [] (wrsOf (area * (safe.length / 2)) e lf 0 (pcs b)) safe) [(lf, b)] := by
  have hlA := areaOf_len (safe := safe) a1
  have h1 := crash_area (lost := []) (e := e) (lf := lf) (m := 0) (r := pcs b) (safe := safe) a1 (by rw [pcs_need]; omega)
  have h2 := crash_other (lost := []) (e := e) (lf := lf) (m := 0) (r := pcs b) (safe := safe) a1 (by rw [pcs_need]; omega)
  have hcl : (crashed [] (wrsOf (area * (safe.length / 2)) e lf 0 (pcs b)) safe).length = safe.length := crashed_len
  generalize crashed [] (wrsOf (area * (safe.length / 2)) e lf 0 (pcs b)) safe = safe' at h1 h2 hcl ⊢
  rw [List.take_zero, List.drop_zero, List.nil_append] at h1
  have hd : (dsec e lf 0 (pcs b)).length = needN b.length := by rw [dsec_len, pcs_need]
  have hov : ov [] 0 (dsec e lf 0 (pcs b)) (areaOf safe area) = dsec e lf 0 (pcs b) ++ (areaOf safe area).drop (needN b.length) := by
    have h3 := ov_append (lost := []) (dsec e lf 0 (pcs b)) [] (areaOf safe area) 0 (by omega)
    rw [List.append_nil] at h3
    rw [h3, ov_nil, ov_all _ _ _ (by rw [List.length_take]; omega) (fun j _ => by simp), hd]
  rw [hov] at h1
  have hls : lsize [(lf, b)] = needN b.length := rfl
  have hT : ∀ j, j < ((areaOf safe area).drop (needN b.length)).length → gt ((areaOf safe area).drop (needN b.length)) j = gt (areaOf safe area) (needN b.length + j) := fun j hj => by
    unfold gt; rw [List.getD_eq_getElem?_getD, List.getD_eq_getElem?_getD, List.getElem?_drop]
  have hst : ∀ j, j < ((areaOf safe area).drop (needN b.length)).length → staleS e lf (needN b.length + j) (gt ((areaOf safe area).drop (needN b.length)) j) := fun j hj hm he => by
    rw [hT j hj] at hm he
    rw [List.length_drop] at hj
    have := hA (needN b.length + j) (by omega) hm
    omega
  have hcur : MarkedIn (areaOf safe' area) (e + 1) lf := fun j hj hm => by
    rw [h1] at hj hm ⊢
    rw [List.length_append, hd] at hj
    rcases Nat.lt_or_ge j (needN b.length) with hlt | hge
    · rw [gt_append_left (by omega)] at hm ⊢
      have := lsecs_mark e2 l2 (b.length + 1) 1 b 0 (Nat.le_refl _) _ (gt_mem (l := dsec e lf 0 (pcs b)) (i := j) (by omega))
      omega
    · obtain ⟨d, rfl⟩ : ∃ d, j = needN b.length + d := ⟨j - needN b.length, by omega⟩
      have e3 : gt (dsec e lf 0 (pcs b) ++ (areaOf safe area).drop (needN b.length)) (needN b.length + d) = gt (areaOf safe area) (needN b.length + d) := by
        rw [← hT d (by omega)]
        rw [← hd, gt_append_len]
      rw [e3] at hm ⊢
      rw [List.length_drop] at hj
      have := hA _ (by omega) hm
      omega
  refine ⟨⟨⟨(areaOf safe area).drop (needN b.length), ?_, ?_, hst⟩, ⟨Nat.zero_le _, l1, Nat.le_refl _⟩, ?_, by simp⟩, hcur, by rw [h2]; exact hO, e1, e2, l1, l2, a1, by omega⟩
  · rw [h1]; simp [lsecs]
  · rw [hls]
    show noRec e (needN b.length) _ false lf = true
    cases hc : (areaOf safe area).drop (needN b.length) with
    | nil => rfl
    | cons s r =>
      have h0 := hst 0 (by rw [hc]; simp)
      rw [hc, gt_cons_zero, Nat.add_zero] at h0
      rw [noRec, goes_stale h0]; rfl
  · intro x hx
    simp only [List.mem_singleton] at hx
    subst hx
    exact hbl
theorem crashGo_nil_at {ws : List Wr} : ∀ (s : List Sec) (i j : Nat), crashGo [] i ws s = crashGo [] j ws s := by
  induction ws with
  | nil => intro s i j; rfl
  | cons w ws ih => intro s i j; rw [crashGo, crashGo, ih _ (i + 1) (j + 1)]; rfl
theorem crashed_append {a b : List Wr} {s : List Sec} : crashed [] (a ++ b) s = crashed [] b (crashed [] a s) := by
  have key : ∀ (a : List Wr) (i : Nat) (s : List Sec), crashGo [] i (a ++ b) s = crashGo [] 0 b (crashGo [] i a s) := by
    intro a
    induction a with
    | nil => intro i s; exact crashGo_nil_at _ _ _
    | cons w a ih => intro i s; rw [List.cons_append, crashGo, crashGo, ih]
  exact key a 0 s
/-- A checkpoint. -/
theorem KD.check {area e lf : Nat} {safe : List Sec} {rl bs : LR} {b : List UInt8} (h : KD area e lf safe rl) (he : e < 1073741824) (hb : ∀ x ∈ bs, x.1 = lf ∧ x.2.length < 2 ^ 20) (hm : lsize rl + lsize bs ≤ safe.length / 2) (hn : needN b.length ≤ safe.length / 2) (hbl : b.length < 2 ^ 20) :
    KD (1 - area) (e + 1) lf (crashed [] (wrsOf (area * (safe.length / 2)) e lf (lsize rl) (apcs bs) ++ wrsOf ((1 - area) * (safe.length / 2)) (e + 1) lf 0 (pcs b)) safe) [(lf, b)] := by
  rw [crashed_append]
  have h1 := h.sync hb hm
  have hcl : (crashed [] (wrsOf (area * (safe.length / 2)) e lf (lsize rl) (apcs bs)) safe).length = safe.length := crashed_len
  rw [← hcl]
  rw [hcl]
  generalize crashed [] (wrsOf (area * (safe.length / 2)) e lf (lsize rl) (apcs bs)) safe = safe' at h1 hcl
  rw [← hcl]
  have a1 := h.a1
  refine KD.fresh (by omega) (by omega) h1.l1 h1.l2 (by omega) h1.sz (h1.oth.mono (by omega) (Nat.le_refl _)) ?_ (by omega) hbl
  rw [show 1 - (1 - area) = area by omega]
  exact h1.cur
theorem KD.begun (n : Nat) (hn : 4 ≤ n) (h2 : n < 2 ^ 20) : KD 0 1 1 (safe0 n) [(1, [])] := by
  have key : ∀ a, MarkedIn (areaOf (List.replicate n zsec) a) 1 1 := fun a j hj hm => by
    have : gt (areaOf (List.replicate n zsec) a) j = zsec := by
      have := gt_mem hj
      unfold areaOf at this
      exact List.eq_of_mem_replicate (List.mem_of_mem_drop (List.mem_of_mem_take this))
    rw [this, zsec_mark] at hm
    cases hm
  have := KD.fresh (area := 0) (e := 1) (lf := 1) (safe := List.replicate n zsec) (b := []) (by omega) (by omega) (by omega) (by omega) (by omega) (by rw [List.length_replicate]; exact h2) (key 0) (key 1) (by rw [List.length_replicate]; show needN 0 ≤ n / 2; unfold needN; omega) (by simp)
  rw [Nat.zero_mul] at this
  exact this
end Go.Proofs.Ytdddehniepofmaa.Fn
namespace Go.Proofs.Ytdddehniepofmaa.Fn
open Go.AM Go.AM.Sym
set_option maxRecDepth 100000
set_option linter.unusedVariables false
set_option linter.unusedSimpArgs false
set_option maxHeartbeats 4000000

theorem sameb_ok {mp : Bool} {lim k1 k2 n1 n2 : Nat} {p q : Option Addr} {a b : List UInt8} {H : Heap} {Q : Value → Heap → Prop} (ha : Sl H encb 1 p a) (hb : Sl H encb 1 q b) (e1 : n1 = a.length) (e2 : n2 = b.length) (h1 : a.length < 2 ^ 60) :
    CallR E mp lim 24 [.slice p n1 k1, .slice q n2 k2] H Q = Q (.bool (decide (a = b))) H := by
  subst e1; subst e2
  refine pc (by decide) e24 rfl rfl ?_
  rw [b24, c24]
  by_cases hl : a.length = b.length
  case neg =>
    simp only [n24, r24, hl, SB, Nat.reduceLT, callee, aOp, ne_eq, Nat.reduceEqDiff, aBin, aUn, if_true, if_false, reduceCtorEq, frame0, place, notTuple, Nat.reduceAdd, Nat.reduceLeDiff, resVal, dite_true, dite_false, Int.reduceEq, Int.reduceLT, Int.reduceLE]
    have : ¬ a = b := fun h => hl (by rw [h])
    simp [this]
  simp only [n24, r24, hl, SB, Nat.reduceLT, callee, aOp, ne_eq, Nat.reduceEqDiff, aBin, aUn, if_true, if_false, reduceCtorEq, frame0, place, notTuple, Nat.reduceAdd, Nat.reduceLeDiff, resVal, dite_true, dite_false, Int.reduceEq, Int.reduceLT, Int.reduceLE]
  refine Ret_rounds (fun i => a.length - i) (fun i fr G => i ≤ a.length ∧ fr 0 = .slice p a.length k1 ∧ fr 1 = .slice q a.length k2 ∧ fr 5 = .int .i64 (i : Int) ∧ Ext H G ∧ ∀ j, j < i → gt a j = gt b j) 0
    ⟨Nat.zero_le _, by rw [hl]; exact (by simp only [upd_same, upd_ne, ne_eq, Nat.reduceEqDiff, not_false_eq_true, frame0, List.getD_cons_zero, List.getD_cons_succ]), by rw [hl]; exact (by simp only [upd_same, upd_ne, ne_eq, Nat.reduceEqDiff, not_false_eq_true, frame0, List.getD_cons_zero, List.getD_cons_succ]), by rfl, Ext.refl.app, fun j hj => by omega⟩ ?_
  intro i fr G ⟨hi, g0, g1, g5, hE, hall⟩ hN
  rw [Ret_code l24_1.eq_1]
  refine Ret_pad ?_
  by_cases hlt : i < a.length
  · have hla := fun X => ((hE.sl ha).app X).loadCell0 encb_len hlt (by decide)
    have hia := fun c (k : IntKind) (H1 : Heap) => (hE.sl ha).idx (c := c) (k := k) (H1 := H1) hlt
    have hlb := fun X => ((hE.sl hb).app X).loadCell0 encb_len (hl ▸ hlt) (by decide)
    have hib := fun c (k : IntKind) (H1 : Heap) => (hE.sl hb).idx (c := c) (k := k) (H1 := H1) (hl ▸ hlt)
    rw [← hl] at hib
    have hw1 : IntKind.i64.wrap ((i : Int) + 1) = ((i + 1 : Nat) : Int) := wrap_nat (by omega)
    by_cases he : gt a i = gt b i
    · simp only [n24, r24, g0, g1, g5, hlt, hla, hlb, hia, hib, hw1, encb_0, he, UInt8.toNat_inj, decide_true, SB, Nat.reduceLT, callee, aOp, ne_eq, Nat.reduceEqDiff, aBin, aUn, if_true, if_false, reduceCtorEq, frame0, place, notTuple, Nat.reduceAdd, Nat.reduceLeDiff, resVal, dite_true, dite_false, Int.reduceEq, Int.reduceLT, Int.reduceLE]
      exact hN (i + 1) _ _ ⟨by omega, (by simp only [g0, upd_same, upd_ne, ne_eq, Nat.reduceEqDiff, not_false_eq_true, frame0, List.getD_cons_zero, List.getD_cons_succ]), (by simp only [g1, upd_same, upd_ne, ne_eq, Nat.reduceEqDiff, not_false_eq_true, frame0, List.getD_cons_zero, List.getD_cons_succ]), (by simp only [upd_same, upd_ne, ne_eq, Nat.reduceEqDiff, not_false_eq_true, frame0, List.getD_cons_zero, List.getD_cons_succ]), hE.app, fun j hj => by
        rcases Nat.lt_or_ge j i with h | h
        · exact hall j h
        · have : j = i := by omega
          subst this; exact he⟩ (by omega)
    · simp only [n24, r24, g0, g1, g5, hlt, hla, hlb, hia, hib, hw1, encb_0, he, UInt8.toNat_inj, decide_false, Bool.not_false, SB, Nat.reduceLT, callee, aOp, ne_eq, Nat.reduceEqDiff, aBin, aUn, if_true, if_false, reduceCtorEq, frame0, place, notTuple, Nat.reduceAdd, Nat.reduceLeDiff, resVal, dite_true, dite_false, Int.reduceEq, Int.reduceLT, Int.reduceLE]
      have : ¬ a = b := fun h => he (by rw [h])
      simp [this]
  obtain rfl : i = a.length := by omega
  have hab : a = b := gt_ext hl hall
  simp only [n24, r24, g0, g1, g5, hlt, SB, Nat.reduceLT, callee, aOp, ne_eq, Nat.reduceEqDiff, aBin, aUn, if_true, if_false, reduceCtorEq, frame0, place, notTuple, Nat.reduceAdd, Nat.reduceLeDiff, resVal, dite_true, dite_false, Int.reduceEq, Int.reduceLT, Int.reduceLE]
  simp [hab]

/-- The marks behind what is lent. -/
def marksb : List UInt8 := (List.range 12).map fun i : Nat => markb 1 (i : Int)
theorem marksb_len : marksb.length = 12 := by simp [marksb]
theorem lentb_ok {lim k1 n1 : Nat} {p : Option Addr} {a : List UInt8} {H : Heap} {Q : Value → Heap → Prop} (ha : Sl H encb 1 p a) (e1 : n1 = a.length) (h1 : a.length < 2 ^ 30) (hl : lim ≤ H.length)
    (hQ : ∀ H' R, Chg [] H H' → H.length ≤ R → hget H' R = .cells false ((a ++ marksb).flatMap encb) → Q (.slice (some ⟨R, 0, none⟩) a.length (a.length + 12)) H') :
    CallR E false lim 19 [.slice p n1 k1] H Q := by
  subst e1
  refine runs (by decide) e19 rfl ?_
  rw [b19, c19]
  have hw12 : IntKind.i64.wrap ((a.length : Int) + 12) = ((a.length + 12 : Nat) : Int) := by rw [wrap_id (by omega) (by omega)]; omega
  have hmk : 0 ≤ ((a.length + 12 : Nat) : Int) ∧ ((a.length + 12 : Nat) : Int) * 1 ≤ 2 ^ 45 ∧ ((a.length + 12 : Nat) : Int) < 2 ^ 62 := by omega
  have hroom := append_roomN (lim := lim) (R := H.length) (bytes := 1) (cap := a.length + 12) (k := k1) (H := H ++ [.cells false (List.replicate (a.length + 12) (Value.int .u8 0))]) (old := []) (rest := List.replicate (a.length + 12) (Value.int .u8 0)) encb_len (by decide) (ha.app _) (by rw [hget_new0]; rfl) hl (by simp) (by simp) (by omega) (by unfold maxBytes; simp; omega)
  simp only [List.length_nil, Nat.zero_add, List.nil_append, set_new0, List.set_cons_zero] at hroom
  simp only [n19, r19, hw12, hmk, zeros1, hroom, Int.toNat_zero, SB, Nat.reduceLT, callee, aOp, ne_eq, Nat.reduceEqDiff, aBin, aUn, if_true, if_false, reduceCtorEq, frame0, place, notTuple, Nat.reduceAdd, Nat.reduceLeDiff, resVal, dite_true, dite_false, Int.reduceEq, Int.reduceLT, Int.reduceLE]
  refine Ret_rounds (fun i => 12 - i) (fun i fr G => i ≤ 12 ∧ fr 0 = .slice p a.length k1 ∧ fr 3 = .slice (some ⟨H.length, 0, none⟩) (a.length + i) (a.length + 12) ∧ fr 4 = .int .i64 (i : Int) ∧ Chg [] H G ∧ H.length < G.length ∧ hget G H.length = .cells false ((a ++ marksb.take i).flatMap encb ++ List.replicate (12 - i) (Value.int .u8 0))) 0
    ⟨Nat.zero_le _, (by simp only [upd_same, upd_ne, ne_eq, Nat.reduceEqDiff, not_false_eq_true, frame0, List.getD_cons_zero, List.getD_cons_succ]), (by simp only [Nat.add_zero, upd_same, upd_ne, ne_eq, Nat.reduceEqDiff, not_false_eq_true, frame0, List.getD_cons_zero, List.getD_cons_succ]), by rfl, Chg.refl.app, by simp, by rw [hget_new0]; simp⟩ ?_
  intro i fr G ⟨hi, g0, g3, g4, hC, hlG, hR⟩ hN
  rw [Ret_code l19_1.eq_1]
  refine Ret_pad ?_
  have hlim : lim ≤ G.length := by omega
  by_cases hlt : i < 12
  · have hlt' : (i : Int) < 12 := by omega
    have hw1 : IntKind.i64.wrap ((i : Int) + 1) = ((i + 1 : Nat) : Int) := wrap_nat (by omega)
    have htl : (a ++ marksb.take i).length = a.length + i := by rw [List.length_append, List.length_take, marksb_len]; omega
    obtain ⟨G2, hset, hG2, hm⟩ := mut_set hlG (.cells false ((a ++ marksb.take (i + 1)).flatMap encb ++ List.replicate (12 - (i + 1)) (Value.int .u8 0)))
    have hroom := append_roomN (lim := lim) (R := H.length) (bytes := 1) (cap := a.length + 12) (k := 1) (p := some ⟨G.length, 0, none⟩) (H := G ++ [.cells false (encb (markb 1 (i : Int)))]) (old := a ++ marksb.take i) (l := [markb 1 (i : Int)]) (rest := List.replicate (12 - i) (Value.int .u8 0)) encb_len (by decide)
      (Sl.lit encb_len (by rw [hget_new0]; rfl) (by rw [hget_new0]; simp [cellsOf])) (by rw [hget_old hlG]; exact hR) hl (by rw [htl]; simp; omega) (by rw [htl]; simp; omega) (by omega) (by rw [htl]; unfold maxBytes; simp; omega)
    have hsn : marksb.take (i + 1) = marksb.take i ++ [markb 1 (i : Int)] := by
      rw [take_snoc (by rw [marksb_len]; exact hlt)]
      simp [marksb, gt, hlt]
    rw [htl, List.append_assoc, ← hsn, List.drop_replicate, show 12 - i - [markb 1 (i : Int)].length * 1 = 12 - (i + 1) by simp; omega, hset] at hroom
    simp only [List.length_cons, List.length_nil, Nat.zero_add, encb, u8] at hroom
    simp only [n19, r19, g0, g3, g4, hlt', markb_ok, u8, hroom, hw1, SB, Nat.reduceLT, callee, aOp, ne_eq, Nat.reduceEqDiff, aBin, aUn, if_true, if_false, reduceCtorEq, frame0, place, notTuple, Nat.reduceAdd, Nat.reduceLeDiff, resVal, dite_true, dite_false, Int.reduceEq, Int.reduceLT, Int.reduceLE]
    exact hN (i + 1) _ _ ⟨by omega, (by simp only [g0, upd_same, upd_ne, ne_eq, Nat.reduceEqDiff, not_false_eq_true, frame0, List.getD_cons_zero, List.getD_cons_succ]), (by simp only [Nat.add_assoc, upd_same, upd_ne, ne_eq, Nat.reduceEqDiff, not_false_eq_true, frame0, List.getD_cons_zero, List.getD_cons_succ]), (by simp only [upd_same, upd_ne, ne_eq, Nat.reduceEqDiff, not_false_eq_true, frame0, List.getD_cons_zero, List.getD_cons_succ]), (hC.mut hm (.inr (Nat.le_refl _))).app, by simp [hm.len]; omega, (Ext.refl.app).cells hG2⟩ (by omega)
  obtain rfl : i = 12 := by omega
  have hnn : (0 : Int) ≤ (a.length : Int) := by omega
  have hcap : a.length + 12 < 2 ^ 62 := by omega
  have hnl : ¬ a.length + 12 = loose 1 := by unfold loose; omega
  have hbv : ∀ (kk : IntKind), boundsV (a.length + 12) (a.length + 12) none (some (.int kk (a.length : Int))) none = some (0, a.length, a.length + 12) := fun kk => by
    rw [bv_010 hnn (by omega)]; simp
  simp only [n19, r19, g0, g3, g4, aSliceS, bounds_V, hbv, hnl, hcap, Nat.sub_zero, Nat.zero_mul, SB, Nat.reduceLT, callee, aOp, ne_eq, Nat.reduceEqDiff, aBin, aUn, if_true, if_false, reduceCtorEq, frame0, place, notTuple, Nat.reduceAdd, Nat.reduceLeDiff, resVal, dite_true, dite_false, Int.reduceEq, Int.reduceLT, Int.reduceLE]
  rw [List.take_of_length_le (by rw [marksb_len]; exact Nat.le_refl _), Nat.sub_self, List.replicate_zero, List.append_nil] at hR
  exact hQ _ _ hC.app (Nat.le_refl _) ((Ext.refl.app).cells hR)

/-- What was lent is as it was, with its marks. -/
theorem keptb_ok {mp : Bool} {lim R k2 n1 n2 : Nat} {q : Option Addr} {a : List UInt8} {H : Heap} {Q : Value → Heap → Prop} (hR : hget H R = .cells false ((a ++ marksb).flatMap encb)) (ha : Sl H encb 1 q a) (e1 : n1 = a.length) (e2 : n2 = a.length) (h1 : a.length < 2 ^ 30) :
    CallR E mp lim 27 [.slice (some ⟨R, 0, none⟩) n1 (a.length + 12), .slice q n2 k2] H Q = Q (.bool true) H := by
  subst e1; subst e2
  refine pc (by decide) e27 rfl rfl ?_
  rw [b27, c27]
  have hw12 : IntKind.i64.wrap ((a.length : Int) + 12) = ((a.length + 12 : Nat) : Int) := by rw [wrap_id (by omega) (by omega)]; omega
  have hcap : a.length + 12 < 2 ^ 62 := by omega
  have hnl : ¬ a.length + 12 = loose 1 := by unfold loose; omega
  have hbv : ∀ (kk : IntKind) (l : Nat), boundsV l (a.length + 12) none (some (.int kk ((a.length + 12 : Nat) : Int))) none = some (0, a.length + 12, a.length + 12) := fun kk l => by
    rw [bv_010 (by omega) (by omega)]; simp; omega
  simp only [n27, r27, hw12, aSliceS, bounds_V, hbv, hnl, hcap, Nat.sub_zero, Nat.zero_mul, SB, Nat.reduceLT, callee, aOp, ne_eq, Nat.reduceEqDiff, aBin, aUn, if_true, if_false, reduceCtorEq, frame0, place, notTuple, Nat.reduceAdd, Nat.reduceLeDiff, resVal, dite_true, dite_false, Int.reduceEq, Int.reduceLT, Int.reduceLE]
  have hlen : (a ++ marksb).length = a.length + 12 := by rw [List.length_append, marksb_len]
  have hsl : Sl H encb 1 (some ⟨R, 0, none⟩) (a ++ marksb) := Sl.lit encb_len (by rw [hR]; rfl) (by rw [hR]; rfl)
  refine Ret_rounds (fun i => a.length + 12 - i) (fun i fr G => i ≤ a.length + 12 ∧ fr 1 = .slice q a.length k2 ∧ fr 5 = .slice (some ⟨R, 0, none⟩) (a.length + 12) (a.length + 12) ∧ fr 6 = .int .i64 (i : Int) ∧ Ext H G) 0
    ⟨Nat.zero_le _, (by simp only [upd_same, upd_ne, ne_eq, Nat.reduceEqDiff, not_false_eq_true, frame0, List.getD_cons_zero, List.getD_cons_succ]), (by simp only [upd_same, upd_ne, ne_eq, Nat.reduceEqDiff, not_false_eq_true, frame0, List.getD_cons_zero, List.getD_cons_succ]), by rfl, Ext.refl.app⟩ ?_
  intro i fr G ⟨hi, g1, g5, g6, hE⟩ hN
  rw [Ret_code l27_1.eq_1]
  refine Ret_pad ?_
  have hG := hE.sl hsl
  have hA := hE.sl ha
  have hw1 : IntKind.i64.wrap ((i : Int) + 1) = ((i + 1 : Nat) : Int) := wrap_nat (by omega)
  by_cases hlt : i < a.length + 12
  · have hld := fun X => (hG.app X).loadCell0 encb_len (hlen ▸ hlt) (by decide)
    have hidx := fun c (k : IntKind) (H1 : Heap) => hG.idx (c := c) (k := k) (H1 := H1) (hlen ▸ hlt)
    rw [hlen] at hidx
    by_cases hla : i < a.length
    · have hlb := fun X => (hA.app X).loadCell0 encb_len hla (by decide)
      have hib := fun c (k : IntKind) (H1 : Heap) => hA.idx (c := c) (k := k) (H1 := H1) hla
      rw [gt_append_left hla] at hld
      simp only [n27, r27, g1, g5, g6, hlt, hla, hld, hlb, hidx, hib, hw1, encb_0, UInt8.toNat_inj, decide_true, show ¬ a.length ≤ i by omega, SB, Nat.reduceLT, callee, aOp, ne_eq, Nat.reduceEqDiff, aBin, aUn, if_true, if_false, reduceCtorEq, frame0, place, notTuple, Nat.reduceAdd, Nat.reduceLeDiff, resVal, dite_true, dite_false, Int.reduceEq, Int.reduceLT, Int.reduceLE]
      exact hN (i + 1) _ _ ⟨by omega, (by simp only [g1, upd_same, upd_ne, ne_eq, Nat.reduceEqDiff, not_false_eq_true, frame0, List.getD_cons_zero, List.getD_cons_succ]), (by simp only [g5, upd_same, upd_ne, ne_eq, Nat.reduceEqDiff, not_false_eq_true, frame0, List.getD_cons_zero, List.getD_cons_succ]), (by simp only [upd_same, upd_ne, ne_eq, Nat.reduceEqDiff, not_false_eq_true, frame0, List.getD_cons_zero, List.getD_cons_succ]), hE.app⟩ (by omega)
    · obtain ⟨j, rfl⟩ : ∃ j, i = a.length + j := ⟨i - a.length, by omega⟩
      have hmk : gt (a ++ marksb) (a.length + j) = markb 1 (j : Int) := by
        rw [gt_append_len]; simp [marksb, gt, show j < 12 by omega]
      rw [hmk] at hld
      have hsub : IntKind.i64.wrap (((a.length + j : Nat) : Int) - (a.length : Int)) = (j : Int) := by rw [wrap_id (by omega) (by omega)]; omega
      simp only [n27, r27, g1, g5, g6, hlt, hla, hld, hidx, hw1, hsub, markb_ok, u8, encb_0, UInt8.toNat_inj, decide_true, show a.length ≤ a.length + j by omega, SB, Nat.reduceLT, callee, aOp, ne_eq, Nat.reduceEqDiff, aBin, aUn, if_true, if_false, reduceCtorEq, frame0, place, notTuple, Nat.reduceAdd, Nat.reduceLeDiff, resVal, dite_true, dite_false, Int.reduceEq, Int.reduceLT, Int.reduceLE]
      exact hN (a.length + j + 1) _ _ ⟨by omega, (by simp only [g1, upd_same, upd_ne, ne_eq, Nat.reduceEqDiff, not_false_eq_true, frame0, List.getD_cons_zero, List.getD_cons_succ]), (by simp only [g5, upd_same, upd_ne, ne_eq, Nat.reduceEqDiff, not_false_eq_true, frame0, List.getD_cons_zero, List.getD_cons_succ]), (by simp only [Nat.add_assoc, upd_same, upd_ne, ne_eq, Nat.reduceEqDiff, not_false_eq_true, frame0, List.getD_cons_zero, List.getD_cons_succ]), hE.app⟩ (by omega)
  obtain rfl : i = a.length + 12 := by omega
  simp only [n27, r27, g1, g5, g6, hlt, SB, Nat.reduceLT, callee, aOp, ne_eq, Nat.reduceEqDiff, aBin, aUn, if_true, if_false, reduceCtorEq, frame0, place, notTuple, Nat.reduceAdd, Nat.reduceLeDiff, resVal, dite_true, dite_false, Int.reduceEq, Int.reduceLT, Int.reduceLE]
end Go.Proofs.Ytdddehniepofmaa.Fn
namespace Go.Proofs.Ytdddehniepofmaa.Fn
open Go.AM Go.AM.Sym
set_option maxRecDepth 100000
set_option linter.unusedVariables false
set_option linter.unusedSimpArgs false
set_option maxHeartbeats 4000000

/-- Rows that are read. -/
structure RowsR (G : Heap) (p : Option Addr) (ds : List Desc) (l : List (List UInt8)) : Prop where
  sl : Sl G encD 1 p ds
  len : ds.length = l.length
  row : ∀ k, k < l.length → (gt ds k).2.1 = (gt l k).length ∧ Sl G encb 1 (gt ds k).1 (gt l k)
theorem RowsR.ext {G G' : Heap} {p : Option Addr} {ds : List Desc} {l : List (List UInt8)} (h : RowsR G p ds l) (he : Ext G G') : RowsR G' p ds l :=
  ⟨he.sl h.sl, h.len, fun k hk => ⟨(h.row k hk).1, he.sl (h.row k hk).2⟩⟩
theorem RowsAt.rr {h0 : Nat} {G : Heap} {p : Option Addr} {c : Nat} {ds : List Desc} {l : List (List UInt8)} (h : RowsAt h0 G p c ds l) : RowsR G p ds l :=
  ⟨h.own.sl encD_len, h.len, fun k hk => ⟨(h.row k hk).1, (h.row k hk).2.sl encb_len⟩⟩
theorem encD_0 {d : Desc} : (encD d)[0]? = some (.slice d.1 d.2.1 d.2.2) := id rfl
theorem rows_ok {mp : Bool} {lim k1 k2 n1 n2 : Nat} {p q : Option Addr} {da db : List Desc} {a b : List (List UInt8)} {H : Heap} {Q : Value → Heap → Prop} (ha : RowsR H p da a) (hb : RowsR H q db b) (e1 : n1 = a.length) (e2 : n2 = b.length) (h1 : a.length < 2 ^ 40) (hs : ∀ k, k < a.length → (gt a k).length < 2 ^ 60) :
    CallR E mp lim 36 [.slice p n1 k1, .slice q n2 k2] H Q = Q (.bool (decide (a = b))) H := by
  subst e1; subst e2
  refine pc (by decide) e36 rfl rfl ?_
  rw [b36, c36]
  by_cases hl : a.length = b.length
  case neg =>
    simp only [n36, r36, hl, SB, Nat.reduceLT, callee, aOp, ne_eq, Nat.reduceEqDiff, aBin, aUn, if_true, if_false, reduceCtorEq, frame0, place, notTuple, Nat.reduceAdd, Nat.reduceLeDiff, resVal, dite_true, dite_false, Int.reduceEq, Int.reduceLT, Int.reduceLE]
    have : ¬ a = b := fun h => hl (by rw [h])
    simp [this]
  simp only [n36, r36, hl, SB, Nat.reduceLT, callee, aOp, ne_eq, Nat.reduceEqDiff, aBin, aUn, if_true, if_false, reduceCtorEq, frame0, place, notTuple, Nat.reduceAdd, Nat.reduceLeDiff, resVal, dite_true, dite_false, Int.reduceEq, Int.reduceLT, Int.reduceLE]
  refine Ret_rounds (fun i => a.length - i) (fun i fr G => i ≤ a.length ∧ fr 0 = .slice p a.length k1 ∧ fr 1 = .slice q a.length k2 ∧ fr 12 = .int .i64 (a.length : Int) ∧ fr 13 = .int .i64 (i : Int) ∧ Ext H G ∧ ∀ j, j < i → gt a j = gt b j) 0
    ⟨Nat.zero_le _, by rw [hl]; exact (by simp only [upd_same, upd_ne, ne_eq, Nat.reduceEqDiff, not_false_eq_true, frame0, List.getD_cons_zero, List.getD_cons_succ]), by rw [hl]; exact (by simp only [upd_same, upd_ne, ne_eq, Nat.reduceEqDiff, not_false_eq_true, frame0, List.getD_cons_zero, List.getD_cons_succ]), by rw [hl]; exact (by simp only [upd_same, upd_ne, ne_eq, Nat.reduceEqDiff, not_false_eq_true, frame0, List.getD_cons_zero, List.getD_cons_succ]), by rfl, Ext.refl.app, fun j hj => by omega⟩ ?_
  intro i fr G ⟨hi, g0, g1, g12, g13, hE, hall⟩ hN
  rw [Ret_code l36_1.eq_1]
  refine Ret_pad ?_
  by_cases hlt : i < a.length
  · have hla := fun X => ((hE.sl ha.sl).app X).loadCell0 encD_len (i := i) (by rw [ha.len]; exact hlt) (by decide)
    have hia := fun c (k : IntKind) (H1 : Heap) => (hE.sl ha.sl).idx (c := c) (k := k) (H1 := H1) (i := i) (by rw [ha.len]; exact hlt)
    have hlb := fun X => ((hE.sl hb.sl).app X).loadCell0 encD_len (i := i) (by rw [hb.len]; omega) (by decide)
    have hib := fun c (k : IntKind) (H1 : Heap) => (hE.sl hb.sl).idx (c := c) (k := k) (H1 := H1) (i := i) (by rw [hb.len]; omega)
    rw [ha.len] at hia
    rw [hb.len, ← hl] at hib
    obtain ⟨ra1, ra2⟩ := ha.row i hlt
    obtain ⟨rb1, rb2⟩ := hb.row i (by omega)
    have hsb := fun X (mp : Bool) (lim : Nat) (Q : Value → Heap → Prop) => sameb_ok (mp := mp) (lim := lim) (k1 := (gt da i).2.2) (k2 := (gt db i).2.2) (Q := Q) ((hE.sl ra2).app X) ((hE.sl rb2).app X) ra1 rb1 (hs i hlt)
    have hw1 : IntKind.i64.wrap ((i : Int) + 1) = ((i + 1 : Nat) : Int) := wrap_nat (by omega)
    by_cases he : gt a i = gt b i
    · simp only [n36, r36, g0, g1, g12, g13, hlt, hla, hlb, hia, hib, hw1, encD_0, hsb, eq_true he, decide_true, Bool.not_true, SB, Nat.reduceLT, callee, aOp, ne_eq, Nat.reduceEqDiff, aBin, aUn, if_true, if_false, reduceCtorEq, frame0, place, notTuple, Nat.reduceAdd, Nat.reduceLeDiff, resVal, dite_true, dite_false, Int.reduceEq, Int.reduceLT, Int.reduceLE]
      exact hN (i + 1) _ _ ⟨by omega, (by simp only [g0, upd_same, upd_ne, ne_eq, Nat.reduceEqDiff, not_false_eq_true, frame0, List.getD_cons_zero, List.getD_cons_succ]), (by simp only [g1, upd_same, upd_ne, ne_eq, Nat.reduceEqDiff, not_false_eq_true, frame0, List.getD_cons_zero, List.getD_cons_succ]), (by simp only [g12, upd_same, upd_ne, ne_eq, Nat.reduceEqDiff, not_false_eq_true, frame0, List.getD_cons_zero, List.getD_cons_succ]), (by simp only [upd_same, upd_ne, ne_eq, Nat.reduceEqDiff, not_false_eq_true, frame0, List.getD_cons_zero, List.getD_cons_succ]), hE.app, fun j hj => by
        rcases Nat.lt_or_ge j i with h | h
        · exact hall j h
        · have : j = i := by omega
          subst this; exact he⟩ (by omega)
    · simp only [n36, r36, g0, g1, g12, g13, hlt, hla, hlb, hia, hib, hw1, encD_0, hsb, eq_false he, decide_false, Bool.not_false, SB, Nat.reduceLT, callee, aOp, ne_eq, Nat.reduceEqDiff, aBin, aUn, if_true, if_false, reduceCtorEq, frame0, place, notTuple, Nat.reduceAdd, Nat.reduceLeDiff, resVal, dite_true, dite_false, Int.reduceEq, Int.reduceLT, Int.reduceLE]
      have : ¬ a = b := fun h => he (by rw [h])
      simp [this]
  · obtain rfl : i = a.length := by omega
    simp only [n36, r36, g0, g1, g12, g13, hlt, SB, Nat.reduceLT, callee, aOp, ne_eq, Nat.reduceEqDiff, aBin, aUn, if_true, if_false, reduceCtorEq, frame0, place, notTuple, Nat.reduceAdd, Nat.reduceLeDiff, resVal, dite_true, dite_false, Int.reduceEq, Int.reduceLT, Int.reduceLE]
    have : a = b := gt_ext hl hall
    simp [this]

/-- The rows that the model keeps: a list that is never empty; its block, and the rows' blocks. -/
structure Mod (h0 : Nat) (G : Heap) (R cq : Nat) (ds : List Desc) (l : List (List UInt8)) (A : List Nat) : Prop where
  blkR : ∃ rest, hget G R = .cells false (ds.flatMap encD ++ rest)
  cap : cq = loose 1 ∨ (cq = 1 ∧ l.length = 1)
  pos : 0 < l.length
  len : ds.length = l.length
  row : ∀ k, k < l.length → (gt ds k).2.1 = (gt l k).length ∧ Sl G encb 1 (gt ds k).1 (gt l k) ∧ ∀ a, (gt ds k).1 = some a → a.block ∉ A ∧ a.block ≠ R ∧ h0 ≤ a.block
  lo : h0 ≤ R
  out : R ∉ A
theorem encD_flat (ds : List Desc) : (ds.flatMap encD).length = ds.length := by rw [flat_len encD_len, Nat.mul_one]
theorem Mod.rr {h0 : Nat} {G : Heap} {R cq : Nat} {ds : List Desc} {l : List (List UInt8)} {A : List Nat} (h : Mod h0 G R cq ds l A) : RowsR G (some ⟨R, 0, none⟩) ds l := by
  obtain ⟨rest, hr⟩ := h.blkR
  refine ⟨⟨rfl, fun _ => ⟨false, _, hr, ?_, ?_⟩⟩, h.len, fun k hk => ⟨(h.row k hk).1, (h.row k hk).2.1⟩⟩
  · rw [List.length_append, encD_flat]; show 0 + _ ≤ _; omega
  · show ((ds.flatMap encD ++ rest).drop 0).take (ds.length * 1) = _
    rw [List.drop_zero, Nat.mul_one, ← encD_flat, List.take_left]
theorem Mod.chg {h0 : Nat} {G G' : Heap} {R cq : Nat} {ds : List Desc} {l : List (List UInt8)} {A B : List Nat} (h : Mod h0 G R cq ds l A) (hc : Chg B G G') (hB : ∀ j ∈ B, j ∈ A ∨ j < h0) : Mod h0 G' R cq ds l A := by
  obtain ⟨rest, hr⟩ := h.blkR
  have nin : ∀ j, j ∉ A → h0 ≤ j → j ∉ B := fun j h1 h2 h3 => by rcases hB j h3 with h4 | h4; exact h1 h4; omega
  refine ⟨⟨rest, hc.cells hr (nin _ h.out h.lo)⟩, h.cap, h.pos, h.len, fun k hk => ?_, h.lo, h.out⟩
  obtain ⟨k1, k2, k3⟩ := h.row k hk
  exact ⟨k1, hc.sl k2 fun a ea _ => nin _ (k3 a ea).1 (k3 a ea).2.2, k3⟩
/-- The blocks that are written are others now. -/
theorem Mod.away {h0 : Nat} {G : Heap} {R cq : Nat} {ds : List Desc} {l : List (List UInt8)} {A B : List Nat} (h : Mod h0 G R cq ds l A) {g : Nat} (hRl : R < g) (hB : ∀ j ∈ B, j ∈ A ∨ j < h0 ∨ g ≤ j) (hs : ∀ k, k < l.length → ∀ a, (gt ds k).1 = some a → a.block < g) : Mod h0 G R cq ds l B := by
  obtain ⟨rest, hr⟩ := h.blkR
  refine ⟨⟨rest, hr⟩, h.cap, h.pos, h.len, fun k hk => ?_, h.lo, fun hh => ?_⟩
  · obtain ⟨k1, k2, k3⟩ := h.row k hk
    refine ⟨k1, k2, fun a ea => ⟨fun hh => ?_, (k3 a ea).2⟩⟩
    have := hs k hk a ea
    have := (k3 a ea).2.2
    rcases hB _ hh with h4 | h4
    · exact (k3 a ea).1 h4
    · omega
  · have := h.lo
    rcases hB _ hh with h4 | h4
    · exact h.out h4
    · omega
/-- A shorter list. -/
theorem Mod.cut {h0 : Nat} {G : Heap} {R cq : Nat} {ds : List Desc} {l : List (List UInt8)} {A : List Nat} (h : Mod h0 G R cq ds l A) {k : Nat} (hk : 0 < k) (hkl : k ≤ l.length) : Mod h0 G R cq (ds.take k) (l.take k) A := by
  obtain ⟨rest, hr⟩ := h.blkR
  have hl := h.len
  refine ⟨⟨(ds.drop k).flatMap encD ++ rest, ?_⟩, ?_, by rw [List.length_take]; omega, by rw [List.length_take, List.length_take, hl], fun j hj => ?_, h.lo, h.out⟩
  · rw [hr, ← List.append_assoc, ← List.flatMap_append, List.take_append_drop]
  · rcases h.cap with h1 | ⟨h1, h2⟩
    · exact .inl h1
    · refine .inr ⟨h1, ?_⟩
      rw [List.length_take]; omega
  · rw [List.length_take] at hj
    have e1 : gt (ds.take k) j = gt ds j := by unfold gt; rw [List.getD_eq_getElem?_getD, List.getD_eq_getElem?_getD, List.getElem?_take, if_pos (by omega)]
    have e2 : gt (l.take k) j = gt l j := by unfold gt; rw [List.getD_eq_getElem?_getD, List.getD_eq_getElem?_getD, List.getElem?_take, if_pos (by omega)]
    rw [e1, e2]
    exact h.row j (by omega)
/-- One row more. -/
theorem Mod.snoc {h0 lim : Nat} {G : Heap} {R cq : Nat} {ds : List Desc} {l : List (List UInt8)} {A : List Nat} (h : Mod h0 G R cq ds l A) (hlim : lim ≤ h0) {q : Option Addr} {cr : Nat} {r : List UInt8} (hs : Sl G encb 1 q r) (hq : ∀ a, q = some a → a.block ∉ A ∧ a.block ≠ R ∧ h0 ≤ a.block ∧ a.block < G.length) (hsz : ∀ k, k < l.length → ∀ a, (gt ds k).1 = some a → a.block < G.length) (hA : ∀ j ∈ A, j < G.length) (hl : l.length < 2 ^ 30) (hG : h0 ≤ G.length) (X : Heap) (b k : Nat) (hx : hget (G ++ X) b = .cells false (encD (q, r.length, cr))) :
    ∃ G2, aAppend lim none 1 24 false (.slice (some ⟨R, 0, none⟩) l.length cq) (.slice (some ⟨b, 0, none⟩) 1 k) (G ++ X) = some (.slice (some ⟨G.length + X.length, 0, none⟩) (l.length + 1) (loose 1), G2) ∧ Mod h0 G2 (G.length + X.length) (loose 1) (ds ++ [(q, r.length, cr)]) (l ++ [r]) A ∧ Chg [R] G G2 ∧ G2.length = G.length + X.length + 1 := by
  obtain ⟨rest, hr⟩ := h.blkR
  have hRl := hget_alive hr
  have hpos := h.pos
  have hlen := h.len
  have hlo := h.lo
  have hb : AM.loadCells (G ++ X) ⟨b, 0, none⟩ (1 * 1) = some (encD (q, r.length, cr)) := by
    rw [loadCells_lit, hx]; rfl
  have hRX : hget (G ++ X) R = .cells false (ds.flatMap encD ++ rest) := by rw [hget_old hRl]; exact hr
  have hold : AM.loadCells (G ++ X) ⟨R, 0, none⟩ (l.length * 1) = some (ds.flatMap encD) := by
    rw [loadCells_lit, hRX]
    simp only [Nat.zero_add, List.drop_zero, Nat.mul_one, List.length_append, encD_flat]
    rw [if_pos (by omega), ← hlen, ← encD_flat ds, List.take_left]
  have hflat : (ds ++ [(q, r.length, cr)]).flatMap encD = ds.flatMap encD ++ encD (q, r.length, cr) := by simp
  -- the block that the list goes to
  have fin : ∀ G2 : Heap, Chg [R] G G2 → hget G2 (G.length + X.length) = .cells false (ds.flatMap encD ++ encD (q, r.length, cr)) → Mod h0 G2 (G.length + X.length) (loose 1) (ds ++ [(q, r.length, cr)]) (l ++ [r]) A := fun G2 hC hg => by
    refine ⟨⟨[], by rw [List.append_nil, hflat]; exact hg⟩, .inl rfl, by simp, by simp [hlen], fun j hj => ?_, by omega, fun hh => by have := hA _ hh; omega⟩
    by_cases hjl : j < l.length
    · rw [gt_append_left (by omega), gt_append_left hjl]
      obtain ⟨k1, k2, k3⟩ := h.row j hjl
      exact ⟨k1, hC.sl k2 fun a ea _ => by simpa using (k3 a ea).2.1, fun a ea => ⟨(k3 a ea).1, by have := hsz j hjl a ea; omega, (k3 a ea).2.2⟩⟩
    · have : j = l.length := by simp at hj; omega
      subst this
      rw [show gt (ds ++ [(q, r.length, cr)]) l.length = (q, r.length, cr) by rw [← hlen]; exact gt_append_len (i := 0), show gt (l ++ [r]) l.length = r from gt_append_len (i := 0)]
      exact ⟨rfl, hC.sl hs fun a ea _ => by simpa using (hq a ea).2.1, fun a ea => ⟨(hq a ea).1, by have := (hq a ea).2.2.2; show a.block ≠ _; omega, (hq a ea).2.2.1⟩⟩
  have hXl : (G ++ X).length = G.length + X.length := List.length_append
  rcases h.cap with h1 | ⟨h1, h2⟩
  · refine ⟨(G.set R .dead ++ X) ++ [.cells false (ds.flatMap encD ++ encD (q, r.length, cr))], ?_, fin _ ?_ ?_, ?_, ?_⟩
    · subst h1
      have hc : ¬ ((l.length + 1) * 24 > maxBytes ∨ l.length + 1 ≥ 2 ^ 62 ∨ loose 1 < l.length) := by unfold loose maxBytes; omega
      unfold aAppend
      simp only [firstCells, lenOf, hb, Bool.false_eq_true, if_false, show ((1 : Nat) = 0) = False from eq_false (by decide), false_or]
      rw [if_neg hc, hold]
      dsimp only
      rw [if_pos trivial, hRX]
      dsimp only
      rw [if_pos (by omega)]
      simp [place, List.set_append_left _ _ hRl, List.append_assoc]
    · exact ((Chg.refl.set (.inl (by simp))).app).app
    · rw [show G.length + X.length = (G.set R .dead ++ X).length by simp]; exact hget_new0
    · exact ((Chg.refl.set (.inl (by simp))).app).app
    · simp; omega
  · refine ⟨(G ++ X) ++ [.cells false (ds.flatMap encD ++ encD (q, r.length, cr))], ?_, fin _ ?_ ?_, ?_, ?_⟩
    · subst h1
      have hc : ¬ ((l.length + 1) * 24 > maxBytes ∨ l.length + 1 ≥ 2 ^ 62 ∨ 1 < l.length) := by unfold maxBytes; omega
      unfold aAppend
      simp only [firstCells, lenOf, hb, Bool.false_eq_true, if_false, show ((1 : Nat) = 0) = False from eq_false (by decide), false_or]
      rw [if_neg hc, hold]
      dsimp only
      rw [if_neg (by unfold loose; omega), if_pos (by decide), if_neg (by omega)]
      simp [place, List.append_assoc]
    · exact (Chg.refl.app).app
    · rw [← hXl]; exact hget_new0
    · exact (Chg.refl.app).app
    · simp; omega
end Go.Proofs.Ytdddehniepofmaa.Fn
namespace Go.Proofs.Ytdddehniepofmaa.Fn
open Go.AM Go.AM.Sym
set_option maxRecDepth 100000
set_option linter.unusedVariables false
set_option linter.unusedSimpArgs false
set_option maxHeartbeats 4000000

def B8 : ACode := bdC (hdC (tlC (tlC l8_1)))
def SW8 : ACode := hdC (tlC (tlC (tlC B8)))
def FIN8 : ACode := tlC (tlC (tlC (tlC B8)))
theorem l8_cut : l8_1 = .seq (hdC l8_1) (.seq (hdC (tlC l8_1)) (.seq (.block 1 (.seq (hdC B8) (.seq (hdC (tlC B8)) (.seq (hdC (tlC (tlC B8))) (.seq SW8 FIN8))))) (tlC (tlC (tlC l8_1))))) := rfl
/-- What stays of a frame. -/
structure Keep8 (fr fr' : Nat → Value) : Prop where
  k5 : fr' 5 = fr 5
  k6 : fr' 6 = fr 6
  k8 : fr' 8 = fr 8
  k9 : fr' 9 = fr 9
  k39 : fr' 39 = fr 39
  k40 : fr' 40 = fr 40
  k41 : fr' 41 = fr 41
theorem fin8 {lim J D S area e lf n sc cp R cq : Nat} {pp : Option Addr} {safe : List Sec} {pend : List Wr} {ds : List Desc} {l : List (List UInt8)} {fr : Nat → Value} {G : Heap} {K : List AItem} {Rt : Value → Heap → Prop}
    (h : Lies lim G J D S area e lf n sc pp cp safe pend) (hn : safe.length < 2 ^ 20) (hpe : pend.length < 2 ^ 30) (har : area ≤ 1) (hl : lim ≤ G.length) (hr : (recs (areaD pend safe area)).1 = l) (hm : RowsR G (some ⟨R, 0, none⟩) ds l) (hll : l.length < 2 ^ 30) (hsh : ∀ k, k < l.length → (gt l k).length < 2 ^ 60)
    (f5 : fr 5 = .pointer (some ⟨J, 0, none⟩)) (f8 : fr 8 = .slice (some ⟨R, 0, none⟩) l.length cq)
    (hR : ∀ fr' G', Chg [] G G' → Keep8 fr fr' → Ret E a8 lim K fr' (G' ++ []) Rt) :
    Ret E a8 lim (.code FIN8 :: K) fr (G ++ []) Rt := by
  unfold FIN8 B8
  simp only [l8_1, bdC, hdC, tlC]
  simp only [n8, r8, f5, f8, SB, Nat.reduceLT, callee, aOp, ne_eq, Nat.reduceEqDiff, aBin, aUn, if_true, if_false, reduceCtorEq, frame0, place, notTuple, Nat.reduceAdd, Nat.reduceLeDiff, resVal, dite_true, dite_false, Int.reduceEq, Int.reduceLT, Int.reduceLE]
  rw [List.append_nil]
  refine Records_ok h hn hpe har hl fun G2 h0 q2 cq2 ds2 hC h0l hA => ?_
  rw [hr] at hA ⊢
  have h36 := fun X (mp : Bool) (lim : Nat) (Q : Value → Heap → Prop) => rows_ok (mp := mp) (lim := lim) (k1 := cq2) (k2 := cq) (Q := Q) (hA.rr.ext (Ext.refl.app (X := X))) ((hm.ext hC.ext).ext (Ext.refl.app (X := X))) rfl rfl (by omega) hsh
  refine Ret_pad ?_
  simp only [n8, r8, f5, f8, h36, decide_true, Bool.not_true, SB, Nat.reduceLT, callee, aOp, ne_eq, Nat.reduceEqDiff, aBin, aUn, if_true, if_false, reduceCtorEq, frame0, place, notTuple, Nat.reduceAdd, Nat.reduceLeDiff, resVal, dite_true, dite_false, Int.reduceEq, Int.reduceLT, Int.reduceLE]
  rw [List.append_nil]
  refine Ret_pad ?_
  exact hR _ G2 hC ⟨(by simp only [upd_same, upd_ne, ne_eq, Nat.reduceEqDiff, not_false_eq_true, frame0, List.getD_cons_zero, List.getD_cons_succ]), (by simp only [upd_same, upd_ne, ne_eq, Nat.reduceEqDiff, not_false_eq_true, frame0, List.getD_cons_zero, List.getD_cons_succ]), (by simp only [upd_same, upd_ne, ne_eq, Nat.reduceEqDiff, not_false_eq_true, frame0, List.getD_cons_zero, List.getD_cons_succ]), (by simp only [upd_same, upd_ne, ne_eq, Nat.reduceEqDiff, not_false_eq_true, frame0, List.getD_cons_zero, List.getD_cons_succ]), (by simp only [upd_same, upd_ne, ne_eq, Nat.reduceEqDiff, not_false_eq_true, frame0, List.getD_cons_zero, List.getD_cons_succ]), (by simp only [upd_same, upd_ne, ne_eq, Nat.reduceEqDiff, not_false_eq_true, frame0, List.getD_cons_zero, List.getD_cons_succ]), (by simp only [upd_same, upd_ne, ne_eq, Nat.reduceEqDiff, not_false_eq_true, frame0, List.getD_cons_zero, List.getD_cons_succ])⟩
end Go.Proofs.Ytdddehniepofmaa.Fn
namespace Go.Proofs.Ytdddehniepofmaa.Fn
open Go.AM Go.AM.Sym
set_option maxRecDepth 100000
set_option linter.unusedVariables false
set_option linter.unusedSimpArgs false
set_option maxHeartbeats 4000000

def thC : ACode → ACode
  | .cond _ a _ => a
  | c => c
def elC : ACode → ACode
  | .cond _ _ b => b
  | c => c
def SWB : ACode := bdC (tlC SW8)
def APP8 : ACode := thC (tlC SWB)
def EL1 : ACode := elC (tlC SWB)
def COM8 : ACode := thC (tlC EL1)
def EL2 : ACode := elC (tlC EL1)
def CHK8 : ACode := thC (tlC EL2)
def EL3 : ACode := elC (tlC EL2)
def CRA8 : ACode := thC (tlC EL3)
theorem SW8_cut : SW8 = .seq (hdC SW8) (.block 2 (.seq (hdC SWB) (.cond (.tmp 54) APP8 (.seq (hdC EL1) (.cond (.tmp 70) COM8 (.seq (hdC EL2) (.cond (.tmp 77) CHK8 (.seq (hdC EL3) (.cond (.tmp 88) CRA8 .skip)))))))))  := rfl

/-- The state between the steps. -/
structure S8 where
  J : Nat
  area : Nat
  e : Nat
  lf : Nat
  nn : Nat
  pp : Option Addr
  cp : Nat
  safe : List Sec
  pend : List Wr
  rl : LR
  bs : LR
  R : Nat
  cq : Nat
  ds : List Desc
  l : List (List UInt8)
structure K8 (lim n D S : Nat) (H : Heap) (i : Nat) (s : S8) (G : Heap) : Prop where
  li : Lies lim G s.J D S s.area s.e s.lf s.nn n s.pp s.cp s.safe s.pend
  kd : KD s.area s.e s.lf s.safe s.rl
  hb : ∀ x ∈ s.bs, x.1 = s.lf ∧ x.2.length < 2 ^ 20
  len : s.safe.length = n
  nn : s.nn = lsize s.rl + lsize s.bs
  fits : s.nn ≤ n / 2
  pend : s.pend = wrsOf (s.area * (n / 2)) s.e s.lf (lsize s.rl) (apcs s.bs)
  lf : s.lf ≤ i + 1
  e : s.e ≤ i + 1
  chg : Chg [] H G
  new : ∀ a, s.pp = some a → H.length ≤ a.block
  jn : H.length ≤ s.J
  lm : s.l = (s.rl ++ s.bs).map (·.2)
  mod : Mod H.length G s.R s.cq s.ds s.l (s.J :: D :: S :: blk s.pp)
  rsz : ∀ k, k < s.l.length → ∀ a, (gt s.ds k).1 = some a → a.block < G.length
  rlen : ∀ k, k < s.l.length → (gt s.l k).length < 2 ^ 60
  llen : s.l.length ≤ i + 1
/-- The frame, as the state says. -/
structure F8 (D : Nat) (p : Option Addr) (ns c i : Nat) (s : S8) (fr : Nat → Value) : Prop where
  f5 : fr 5 = .pointer (some ⟨s.J, 0, none⟩)
  f6 : fr 6 = .pointer (some ⟨D, 0, none⟩)
  f8 : fr 8 = .slice (some ⟨s.R, 0, none⟩) s.l.length s.cq
  f9 : fr 9 = .int .i64 (s.rl.length : Int)
  f39 : fr 39 = .slice p ns c
  f40 : fr 40 = .int .i64 (ns : Int)
  f41 : fr 41 = .int .i64 (i : Int)
theorem bnd_pre {n k cap : Nat} (h : k ≤ cap) : bounds unV n cap none (some (.const (.int .i64 (k : Int)))) none = some (0, k, cap) := by
  have := bv_010 (len := n) (cap := cap) (k1 := .i64) (h := (k : Int)) (by omega) (by omega)
  rw [Int.toNat_natCast] at this
  exact this
theorem sliceV_pre {R n k cq : Nat} (h1 : k ≤ n) (h2 : n ≤ cq) (h3 : cq = loose 1 ∨ cq < 2 ^ 62) (hk : 0 < k) : sliceV 1 (.slice (some ⟨R, 0, none⟩) n cq) none (some (.int .i64 (k : Int))) none = some (.slice (some ⟨R, 0, none⟩) k cq) := by
  unfold sliceV aSliceS
  simp only [Option.map_some, Option.map_none, bnd_pre h1, bnd_pre (Nat.le_trans h1 h2), addr_add]
  rcases h3 with h3 | h3
  · rw [if_pos h3, h3]; rfl
  · rw [if_neg (by unfold loose; omega), if_pos h3, if_neg (by omega)]
    rfl

section
variable {lim n D S i ns c : Nat} {p : Option Addr} {H : Heap} {s : S8} {G : Heap} {fr : Nat → Value} {K : List AItem} {Rt : Value → Heap → Prop} {h : Nat} {q : Option Addr} {cb : Nat} {b : List UInt8}
theorem K8.lives (I : K8 lim n D S H i s G) : s.lf ≤ 1073741824 := I.kd.l2
/-- Other blocks change. -/
theorem K8.to {G' : Heap} {B : List Nat} (I : K8 lim n D S H i s G) (hc : Chg B G G') (hB : ∀ j ∈ B, G.length ≤ j) : K8 lim n D S H i s G' := by
  have hJ := hget_alive I.li.jl.j
  have hD := hget_alive I.li.jl.d
  have hS := hget_alive I.li.s
  have hl := hc.len
  have hcl := I.chg.len
  have hc0 : Chg [] G G' := ⟨hl, fun j hj _ => hc.other j hj fun hh => by have := hB j hh; omega⟩
  exact ⟨Chg.lies I.li hc0 (by simp), I.kd, I.hb, I.len, I.nn, I.fits, I.pend, I.lf, I.e, I.chg.trans' hc0 (by simp), I.new, I.jn, I.lm, I.mod.chg hc0 (by simp), fun k hk a ea => by have := I.rsz k hk a ea; omega, I.rlen, I.llen⟩
theorem K8.step {i' : Nat} (I : K8 lim n D S H i s G) (h : i ≤ i') : K8 lim n D S H i' s G :=
  ⟨I.li, I.kd, I.hb, I.len, I.nn, I.fits, I.pend, by have := I.lf; omega, by have := I.e; omega, I.chg, I.new, I.jn, I.lm, I.mod, I.rsz, I.rlen, by have := I.llen; omega⟩
/-- What the records are. -/
theorem K8.recs (I : K8 lim n D S H i s G) : (recs (areaD s.pend s.safe s.area)).1 = s.l := by
  have h1 := I.kd.sync I.hb (by rw [← I.nn, I.len]; exact I.fits)
  rw [areaD_of, I.pend, ← I.len, h1.recs, I.lm]
theorem K8.plen (I : K8 lim n D S H i s G) : s.pend.length = lsize s.bs := by rw [I.pend, wrsOf_len, apcs_len]
/-- A commit. -/
theorem com8 (I : K8 lim n D S H i s G) (hn : n < 2 ^ 19) (F : F8 D p ns c i s fr) (hR : ∀ s' fr' G', K8 lim n D S H i s' G' → F8 D p ns c i s' fr' → Ret E a8 lim K fr' (G' ++ []) Rt) (hDl : H.length ≤ D) (hSl : H.length ≤ S) :
    Ret E a8 lim (.code COM8 :: K) fr (G ++ []) Rt := by
  have hf := I.fits
  have hnn := I.nn
  have hpl := I.plen
  have hlen := I.len
  have g5 := F.f5
  have g6 := F.f6
  have g8 := F.f8
  unfold COM8 EL1 SWB SW8 B8
  simp only [l8_1, bdC, hdC, tlC, thC, elC]
  simp only [n8, r8, g5, SB, Nat.reduceLT, callee, aOp, ne_eq, Nat.reduceEqDiff, aBin, aUn, if_true, if_false, reduceCtorEq, frame0, place, notTuple, Nat.reduceAdd, Nat.reduceLeDiff, resVal, dite_true, dite_false, Int.reduceEq, Int.reduceLT, Int.reduceLE]
  rw [List.append_nil]
  refine Commit_ok I.li (by omega) (by omega) fun H' hC hli => ?_
  refine Ret_pad ?_
  simp only [n8, r8, g8, SB, Nat.reduceLT, callee, aOp, ne_eq, Nat.reduceEqDiff, aBin, aUn, if_true, if_false, reduceCtorEq, frame0, place, notTuple, Nat.reduceAdd, Nat.reduceLeDiff, resVal, dite_true, dite_false, Int.reduceEq, Int.reduceLT, Int.reduceLE]
  rw [List.append_nil]
  refine Ret_pad ?_
  have hll : s.l.length = (s.rl ++ s.bs).length := by rw [I.lm, List.length_map]
  have hk := I.kd.sync I.hb (by rw [← hnn, hlen]; exact hf)
  rw [hlen, ← I.pend] at hk
  have hCl := hC.len
  obtain ⟨rest, hRb⟩ := I.mod.blkR
  have hRl := hget_alive hRb
  refine hR ⟨s.J, s.area, s.e, s.lf, s.nn, none, 0, crashed [] s.pend s.safe, [], s.rl ++ s.bs, [], s.R, s.cq, s.ds, s.l⟩ _ H' ⟨hli, hk, by simp, by rw [crashed_len]; exact hlen, by rw [lsize_append]; exact hnn, hf, rfl, I.lf, I.e, I.chg.trans' hC (fun j h1 h2 => by simp only [List.mem_cons, List.not_mem_nil, or_false] at h1; omega), (by intro a ea; cases ea), I.jn, by rw [List.append_nil]; exact I.lm, (I.mod.chg hC (fun j hj => .inl (by simp only [List.mem_cons, List.not_mem_nil, or_false] at hj ⊢; omega))).away (g := G.length) hRl (fun j hj => .inl (by simp only [List.mem_cons, blk, List.not_mem_nil, or_false] at hj ⊢; omega)) I.rsz, fun k hk a ea => by have := I.rsz k hk a ea; omega, I.rlen, I.llen⟩ ⟨(by simp only [g5, upd_same, upd_ne, ne_eq, Nat.reduceEqDiff, not_false_eq_true, frame0, List.getD_cons_zero, List.getD_cons_succ]), (by simp only [g6, upd_same, upd_ne, ne_eq, Nat.reduceEqDiff, not_false_eq_true, frame0, List.getD_cons_zero, List.getD_cons_succ]), (by simp only [g8, upd_same, upd_ne, ne_eq, Nat.reduceEqDiff, not_false_eq_true, frame0, List.getD_cons_zero, List.getD_cons_succ]), by rw [← hll]; exact (by simp only [upd_same, upd_ne, ne_eq, Nat.reduceEqDiff, not_false_eq_true, frame0, List.getD_cons_zero, List.getD_cons_succ]), by rw [← F.f39]; exact (by simp only [upd_same, upd_ne, ne_eq, Nat.reduceEqDiff, not_false_eq_true, frame0, List.getD_cons_zero, List.getD_cons_succ]), by rw [← F.f40]; exact (by simp only [upd_same, upd_ne, ne_eq, Nat.reduceEqDiff, not_false_eq_true, frame0, List.getD_cons_zero, List.getD_cons_succ]), by rw [← F.f41]; exact (by simp only [upd_same, upd_ne, ne_eq, Nat.reduceEqDiff, not_false_eq_true, frame0, List.getD_cons_zero, List.getD_cons_succ])⟩
/-- A record that is new. -/
structure NewB (h : Nat) (H : Heap) (D S : Nat) (s : S8) (G : Heap) (q : Option Addr) (cb : Nat) (b : List UInt8) : Prop where
  fr : Fresh h G q cb b
  lo : H.length ≤ h
  D : D < h
  S : S < h
  J : s.J < h
  R : s.R < h
  pp : ∀ a, s.pp = some a → a.block < h
  rw : ∀ k, k < s.l.length → ∀ a, (gt s.ds k).1 = some a → a.block < h
theorem NewB.ap (N : NewB h H D S s G q cb b) : ∀ a, q = some a → b ≠ [] → a.block ≠ s.J ∧ a.block ≠ D ∧ a.block ∉ blk s.pp := fun a ea _ => by
  have h1 := (N.fr.own.block ea).1
  have h2 := N.D
  have h3 := N.J
  refine ⟨by omega, by omega, fun hh => ?_⟩
  cases hp : s.pp with
  | none => rw [hp] at hh; simp [blk] at hh
  | some b => rw [hp] at hh; simp only [blk, List.mem_singleton] at hh; have := N.pp b hp; omega
theorem app8 (I : K8 lim n D S H i s G) (hn : n < 2 ^ 19) (hi : i < 1000) (F : F8 D p ns c i s fr) (N : NewB h H D S s G q cb b) (f12 : fr 12 = .slice q b.length cb) (hlim : lim ≤ H.length) (hDl : H.length ≤ D) (hSl : H.length ≤ S)
    (hR : ∀ s' fr' G', K8 lim n D S H (i + 1) s' G' → F8 D p ns c i s' fr' → Ret E a8 lim K fr' (G' ++ []) Rt) :
    Ret E a8 lim (.code APP8 :: K) fr (G ++ []) Rt := by
  have hf := I.fits
  have hnn := I.nn
  have hpl := I.plen
  have hlen := I.len
  have g5 := F.f5
  have g6 := F.f6
  have g8 := F.f8
  have g9 := F.f9
  have hb60 := N.fr.len
  have hnd := needN_le b.length
  have a1 := I.kd.a1
  unfold APP8 SWB SW8 B8
  simp only [l8_1, bdC, hdC, tlC, thC, elC]
  simp only [n8, r8, g5, f12, SB, Nat.reduceLT, callee, aOp, ne_eq, Nat.reduceEqDiff, aBin, aUn, if_true, if_false, reduceCtorEq, frame0, place, notTuple, Nat.reduceAdd, Nat.reduceLeDiff, resVal, dite_true, dite_false, Int.reduceEq, Int.reduceLT, Int.reduceLE]
  rw [List.append_nil]
  refine Append_ok I.li (N.fr.own.sl encb_len) N.fr.own.capOk N.fr.nil N.ap (by omega) (by omega) (by omega) (by omega) a1 (fun hr => ?_) fun G3 pp3 cp3 hr hC3 hn3 hli3 => ?_
  · refine Ret_pad ?_
    simp only [n8, r8, g5, g8, SB, Nat.reduceLT, callee, aOp, ne_eq, Nat.reduceEqDiff, aBin, aUn, if_true, if_false, reduceCtorEq, frame0, place, notTuple, Nat.reduceAdd, Nat.reduceLeDiff, resVal, dite_true, dite_false, Int.reduceEq, Int.reduceLT, Int.reduceLE]
    rw [List.append_nil]
    refine Ret_pad ?_
    exact hR s _ G (I.step (by omega)) ⟨(by simp only [g5, upd_same, upd_ne, ne_eq, Nat.reduceEqDiff, not_false_eq_true, frame0, List.getD_cons_zero, List.getD_cons_succ]), (by simp only [g6, upd_same, upd_ne, ne_eq, Nat.reduceEqDiff, not_false_eq_true, frame0, List.getD_cons_zero, List.getD_cons_succ]), (by simp only [g8, upd_same, upd_ne, ne_eq, Nat.reduceEqDiff, not_false_eq_true, frame0, List.getD_cons_zero, List.getD_cons_succ]), (by simp only [g9, upd_same, upd_ne, ne_eq, Nat.reduceEqDiff, not_false_eq_true, frame0, List.getD_cons_zero, List.getD_cons_succ]), by rw [← F.f39]; exact (by simp only [upd_same, upd_ne, ne_eq, Nat.reduceEqDiff, not_false_eq_true, frame0, List.getD_cons_zero, List.getD_cons_succ]), by rw [← F.f40]; exact (by simp only [upd_same, upd_ne, ne_eq, Nat.reduceEqDiff, not_false_eq_true, frame0, List.getD_cons_zero, List.getD_cons_succ]), by rw [← F.f41]; exact (by simp only [upd_same, upd_ne, ne_eq, Nat.reduceEqDiff, not_false_eq_true, frame0, List.getD_cons_zero, List.getD_cons_succ])⟩
  · rw [hlen] at hr hli3
    have hC3l := hC3.len
    have hJl := hget_alive I.li.jl.j
    have hDG := hget_alive I.li.jl.d
    have hSG := hget_alive I.li.s
    obtain ⟨rest, hRb⟩ := I.mod.blkR
    have hRl := hget_alive hRb
    have hppl : ∀ a, s.pp = some a → a.block < G.length := fun a ea => (I.li.jl.own.block ea).2
    -- the blocks of the new row
    have hq : ∀ a, q = some a → a.block ∉ (s.J :: D :: S :: blk pp3) ∧ a.block ≠ s.R ∧ H.length ≤ a.block ∧ a.block < G3.length := fun a ea => by
      have h1 := N.fr.own.block ea
      have h2 := N.D
      have h3 := N.J
      have h4 := N.S
      have h5 := N.R
      have h6 := N.lo
      refine ⟨fun hh => ?_, by omega, by omega, by omega⟩
      simp only [List.mem_cons] at hh
      rcases hh with hh | hh | hh | hh
      · omega
      · omega
      · omega
      · obtain ⟨a', e1, e2⟩ := blk_mem.1 hh
        by_cases hm : a'.block ∈ blk s.pp
        · obtain ⟨a2, e3, e4⟩ := blk_mem.1 hm
          have := N.pp a2 e3
          omega
        · have := hn3 a' e1 hm
          omega
    have hnewp : ∀ a, pp3 = some a → H.length ≤ a.block := fun a ea => by
      by_cases hm : a.block ∈ blk s.pp
      · obtain ⟨a2, e3, e4⟩ := blk_mem.1 hm
        have := I.new a2 e3
        omega
      · have := hn3 a ea hm
        have := I.chg.len
        omega
    have hmod := (I.mod.chg hC3 (fun j hj => .inl (by
      simp only [List.mem_cons] at hj ⊢
      rcases hj with hj | hj | hj
      · exact .inl hj
      · exact .inr (.inl hj)
      · exact .inr (.inr (.inr hj))))).away (B := s.J :: D :: S :: blk pp3) (g := G.length) hRl (fun j hj => by
      simp only [List.mem_cons] at hj ⊢
      rcases hj with hj | hj | hj | hj
      · exact .inl (.inl hj)
      · exact .inl (.inr (.inl hj))
      · exact .inl (.inr (.inr (.inl hj)))
      · obtain ⟨a', e1, e2⟩ := blk_mem.1 hj
        by_cases hm : a'.block ∈ blk s.pp
        · exact .inl (.inr (.inr (.inr (e2 ▸ hm))))
        · have := hn3 a' e1 hm
          exact .inr (.inr (by omega))) I.rsz
    have hcl := I.chg.len
    have hll := I.llen
    obtain ⟨G4, e1, M4, C4, l4⟩ := hmod.snoc (lim := lim) hlim (q := q) (cr := cb) (r := b) (hC3.sl (N.fr.own.sl encb_len) fun a ea hb => by
      have := N.ap a ea hb
      simp only [List.mem_cons, not_or]
      exact this) hq (fun k hk a ea => by have := I.rsz k hk a ea; omega) (fun j hj => by
        simp only [List.mem_cons] at hj
        rcases hj with hj | hj | hj | hj
        · omega
        · omega
        · omega
        · obtain ⟨a', e1, e2⟩ := blk_mem.1 hj
          have := (hli3.jl.own.block e1).2
          omega) (by omega) (by omega) [.cells false (encD (q, b.length, cb))] G3.length 1 (by rw [hget_new0]; rfl)
    simp only [encD, List.length_cons, List.length_nil, Nat.zero_add] at e1
    refine Ret_pad ?_
    simp only [n8, r8, g5, g8, f12, e1, SB, Nat.reduceLT, callee, aOp, ne_eq, Nat.reduceEqDiff, aBin, aUn, if_true, if_false, reduceCtorEq, frame0, place, notTuple, Nat.reduceAdd, Nat.reduceLeDiff, resVal, dite_true, dite_false, Int.reduceEq, Int.reduceLT, Int.reduceLE]
    rw [← List.append_nil G4]
    simp only [List.length_cons, List.length_nil, Nat.zero_add] at M4 l4
    have hRout : s.R ∉ (s.J :: D :: S :: blk pp3) := hmod.out
    simp only [List.mem_cons, not_or] at hRout
    refine hR ⟨s.J, s.area, s.e, s.lf, s.nn + needN b.length, pp3, cp3, s.safe, s.pend ++ wrsOf (s.area * (n / 2)) s.e s.lf s.nn (pcs b), s.rl, s.bs ++ [(s.lf, b)], G3.length + 1, loose 1, s.ds ++ [(q, b.length, cb)], s.l ++ [b]⟩ _ G4 ⟨Chg.lies hli3 C4 (by
        intro j hj
        simp only [List.mem_singleton] at hj
        subst hj
        exact ⟨hRout.1, hRout.2.1, hRout.2.2.1, fun a ea e => hRout.2.2.2 (blk_mem.2 ⟨a, ea, e⟩)⟩), I.kd, ?_, hlen, ?_, ?_, ?_, by have := I.lf; show s.lf ≤ _; omega, by have := I.e; show s.e ≤ _; omega, ?_, hnewp, I.jn, ?_, M4, ?_, ?_, ?_⟩ ⟨(by simp only [g5, upd_same, upd_ne, ne_eq, Nat.reduceEqDiff, not_false_eq_true, frame0, List.getD_cons_zero, List.getD_cons_succ]), (by simp only [g6, upd_same, upd_ne, ne_eq, Nat.reduceEqDiff, not_false_eq_true, frame0, List.getD_cons_zero, List.getD_cons_succ]), ?_, (by simp only [g9, upd_same, upd_ne, ne_eq, Nat.reduceEqDiff, not_false_eq_true, frame0, List.getD_cons_zero, List.getD_cons_succ]), by rw [← F.f39]; exact (by simp only [upd_same, upd_ne, ne_eq, Nat.reduceEqDiff, not_false_eq_true, frame0, List.getD_cons_zero, List.getD_cons_succ]), by rw [← F.f40]; exact (by simp only [upd_same, upd_ne, ne_eq, Nat.reduceEqDiff, not_false_eq_true, frame0, List.getD_cons_zero, List.getD_cons_succ]), by rw [← F.f41]; exact (by simp only [upd_same, upd_ne, ne_eq, Nat.reduceEqDiff, not_false_eq_true, frame0, List.getD_cons_zero, List.getD_cons_succ])⟩
    · intro x hx
      rcases List.mem_append.1 hx with hx | hx
      · exact I.hb x hx
      · simp only [List.mem_singleton] at hx
        subst hx
        exact ⟨rfl, by show b.length < _; omega⟩
    · show s.nn + needN b.length = lsize s.rl + lsize (s.bs ++ [(s.lf, b)])
      rw [lsize_append, hnn]
      simp only [lsize]; omega
    · show s.nn + needN b.length ≤ n / 2
      omega
    · show s.pend ++ _ = wrsOf _ _ _ _ (apcs (s.bs ++ [(s.lf, b)]))
      rw [apcs_snoc, wrsOf_append, apcs_len, ← hnn, I.pend]
    · refine (I.chg.trans' hC3 fun j h1 h2 => ?_).trans' C4 fun j h1 h2 => ?_
      · have := I.jn
        simp only [List.mem_cons] at h1
        rcases h1 with h1 | h1 | h1
        · omega
        · omega
        · obtain ⟨a', e1, e2⟩ := blk_mem.1 h1
          have := I.new a' e1
          omega
      · simp only [List.mem_singleton] at h1
        have := I.mod.lo
        omega
    · show s.l ++ [b] = (s.rl ++ (s.bs ++ [(s.lf, b)])).map (·.2)
      rw [← List.append_assoc, List.map_append, ← I.lm]; rfl
    · intro k hk a ea
      show a.block < G4.length
      have hk' : k < s.l.length + 1 := by simpa using hk
      by_cases hkl : k < s.l.length
      · have e5 : gt (s.ds ++ [(q, b.length, cb)]) k = gt s.ds k := gt_append_left (by rw [I.mod.len]; exact hkl)
        change (gt (s.ds ++ [(q, b.length, cb)]) k).1 = some a at ea
        rw [e5] at ea
        have := I.rsz k hkl a ea
        omega
      · have : k = s.l.length := by omega
        subst this
        change (gt (s.ds ++ [(q, b.length, cb)]) s.l.length).1 = some a at ea
        rw [show gt (s.ds ++ [(q, b.length, cb)]) s.l.length = (q, b.length, cb) by rw [← I.mod.len]; exact gt_append_len (i := 0)] at ea
        have := (hq a ea).2.2.2
        omega
    · intro k hk
      show (gt (s.l ++ [b]) k).length < _
      have hk' : k < s.l.length + 1 := by simpa using hk
      by_cases hkl : k < s.l.length
      · rw [gt_append_left hkl]; exact I.rlen k hkl
      · have : k = s.l.length := by omega
        subst this
        rw [show gt (s.l ++ [b]) s.l.length = b from gt_append_len (i := 0)]
        omega
    · show (s.l ++ [b]).length ≤ i + 1 + 1
      simp; omega
    · show _ = Value.slice (some ⟨G3.length + 1, 0, none⟩) (s.l ++ [b]).length (loose 1)
      rw [List.length_append]
      show _ = Value.slice _ (s.l.length + 1) _
      exact (by simp only [upd_same, upd_ne, ne_eq, Nat.reduceEqDiff, not_false_eq_true, frame0, List.getD_cons_zero, List.getD_cons_succ])
end
end Go.Proofs.Ytdddehniepofmaa.Fn
namespace Go.Proofs.Ytdddehniepofmaa.Fn
open Go.AM Go.AM.Sym
set_option maxRecDepth 100000
set_option linter.unusedVariables false
set_option linter.unusedSimpArgs false
set_option maxHeartbeats 4000000

section
variable {lim n D S i ns c : Nat} {p : Option Addr} {H : Heap} {s : S8} {G : Heap} {fr : Nat → Value} {K : List AItem} {Rt : Value → Heap → Prop} {h : Nat} {q : Option Addr} {cb : Nat} {b : List UInt8}
theorem chk8 (I : K8 lim n D S H i s G) (hn : n < 2 ^ 19) (hi : i < 1000) (F : F8 D p ns c i s fr) (N : NewB h H D S s G q cb b) (f12 : fr 12 = .slice q b.length cb) (hlim : lim ≤ H.length) (hDl : H.length ≤ D) (hSl : H.length ≤ S)
    (hR : ∀ s' fr' G', K8 lim n D S H (i + 1) s' G' → F8 D p ns c i s' fr' → Ret E a8 lim K fr' (G' ++ []) Rt) :
    Ret E a8 lim (.code CHK8 :: K) fr (G ++ []) Rt := by
  have hf := I.fits
  have hnn := I.nn
  have hpl := I.plen
  have hlen := I.len
  have g5 := F.f5
  have g6 := F.f6
  have g8 := F.f8
  have g9 := F.f9
  have hb60 := N.fr.len
  have hnd := needN_le b.length
  have a1 := I.kd.a1
  have he := I.e
  unfold CHK8 EL2 EL1 SWB SW8 B8
  simp only [l8_1, bdC, hdC, tlC, thC, elC]
  simp only [n8, r8, g5, f12, SB, Nat.reduceLT, callee, aOp, ne_eq, Nat.reduceEqDiff, aBin, aUn, if_true, if_false, reduceCtorEq, frame0, place, notTuple, Nat.reduceAdd, Nat.reduceLeDiff, resVal, dite_true, dite_false, Int.reduceEq, Int.reduceLT, Int.reduceLE]
  rw [List.append_nil]
  refine Checkpoint_ok I.li (N.fr.own.sl encb_len) N.fr.own.capOk N.fr.nil N.ap (by omega) (by omega) (by omega) (by omega) a1 (fun hr => ?_) fun G3 hr hC3 hli3 => ?_
  · refine Ret_pad ?_
    simp only [n8, r8, g5, g8, SB, Nat.reduceLT, callee, aOp, ne_eq, Nat.reduceEqDiff, aBin, aUn, if_true, if_false, reduceCtorEq, frame0, place, notTuple, Nat.reduceAdd, Nat.reduceLeDiff, resVal, dite_true, dite_false, Int.reduceEq, Int.reduceLT, Int.reduceLE]
    rw [List.append_nil]
    refine Ret_pad ?_
    exact hR s _ G (I.step (by omega)) ⟨(by simp only [g5, upd_same, upd_ne, ne_eq, Nat.reduceEqDiff, not_false_eq_true, frame0, List.getD_cons_zero, List.getD_cons_succ]), (by simp only [g6, upd_same, upd_ne, ne_eq, Nat.reduceEqDiff, not_false_eq_true, frame0, List.getD_cons_zero, List.getD_cons_succ]), (by simp only [g8, upd_same, upd_ne, ne_eq, Nat.reduceEqDiff, not_false_eq_true, frame0, List.getD_cons_zero, List.getD_cons_succ]), (by simp only [g9, upd_same, upd_ne, ne_eq, Nat.reduceEqDiff, not_false_eq_true, frame0, List.getD_cons_zero, List.getD_cons_succ]), by rw [← F.f39]; exact (by simp only [upd_same, upd_ne, ne_eq, Nat.reduceEqDiff, not_false_eq_true, frame0, List.getD_cons_zero, List.getD_cons_succ]), by rw [← F.f40]; exact (by simp only [upd_same, upd_ne, ne_eq, Nat.reduceEqDiff, not_false_eq_true, frame0, List.getD_cons_zero, List.getD_cons_succ]), by rw [← F.f41]; exact (by simp only [upd_same, upd_ne, ne_eq, Nat.reduceEqDiff, not_false_eq_true, frame0, List.getD_cons_zero, List.getD_cons_succ])⟩
  · rw [hlen] at hr hli3
    have hC3l := hC3.len
    have hJl := hget_alive I.li.jl.j
    have hDG := hget_alive I.li.jl.d
    have hSG := hget_alive I.li.s
    have hkd := I.kd.check (b := b) (by omega) I.hb (by rw [← hnn, hlen]; exact hf) (by rw [hlen]; exact hr) (by omega)
    rw [hlen, ← I.pend] at hkd
    have hl3 : (crashed [] (s.pend ++ wrsOf ((1 - s.area) * (n / 2)) (s.e + 1) s.lf 0 (pcs b)) s.safe).length = n := by rw [crashed_len, hlen]
    generalize crashed [] (s.pend ++ wrsOf ((1 - s.area) * (n / 2)) (s.e + 1) s.lf 0 (pcs b)) s.safe = safe3 at hli3 hkd hl3
    have hq : ∀ a, q = some a → a.block ∉ [s.J, D, S] ∧ h ≤ a.block ∧ a.block < G3.length := fun a ea => by
      have h1 := N.fr.own.block ea
      have h2 := N.D
      have h3 := N.J
      have h4 := N.S
      simp only [List.mem_cons, List.not_mem_nil, or_false]
      omega
    have hs3 : Sl G3 encb 1 q b := hC3.sl (N.fr.own.sl encb_len) fun a ea hb => by
      have h1 := N.ap a ea hb
      have h2 := (hq a ea).1
      simp only [List.mem_cons, List.not_mem_nil, or_false, not_or] at h2 ⊢
      exact ⟨h2.2.2, h2.1, h2.2.1, h1.2.2⟩
    have hlo := N.lo
    have hcl := I.chg.len
    refine Ret_pad ?_
    simp only [n8, r8, g5, g8, f12, SB, Nat.reduceLT, callee, aOp, ne_eq, Nat.reduceEqDiff, aBin, aUn, if_true, if_false, reduceCtorEq, frame0, place, notTuple, Nat.reduceAdd, Nat.reduceLeDiff, resVal, dite_true, dite_false, Int.reduceEq, Int.reduceLT, Int.reduceLE]
    refine Ret_pad ?_
    refine hR ⟨s.J, 1 - s.area, s.e + 1, s.lf, needN b.length, none, 0, safe3, [], [(s.lf, b)], [], G3.length, 1, [(q, b.length, cb)], [b]⟩ _ (G3 ++ [_]) ⟨Chg.lies hli3 (Chg.refl.app : Chg [] G3 _) (by simp), hkd, by simp, hl3, rfl, hr, rfl, by have := I.lf; show s.lf ≤ _; omega, by show s.e + 1 ≤ _; omega, ?_, (by intro a ea; cases ea), I.jn, rfl, ⟨⟨[], by rw [hget_new0]; rfl⟩, .inr ⟨rfl, rfl⟩, by simp, rfl, ?_, by show H.length ≤ G3.length; omega, ?_⟩, ?_, ?_, by show 1 ≤ _; omega⟩ ⟨(by simp only [g5, upd_same, upd_ne, ne_eq, Nat.reduceEqDiff, not_false_eq_true, frame0, List.getD_cons_zero, List.getD_cons_succ]), (by simp only [g6, upd_same, upd_ne, ne_eq, Nat.reduceEqDiff, not_false_eq_true, frame0, List.getD_cons_zero, List.getD_cons_succ]), (by show _ = Value.slice _ 1 1; exact (by simp only [upd_same, upd_ne, ne_eq, Nat.reduceEqDiff, not_false_eq_true, frame0, List.getD_cons_zero, List.getD_cons_succ])), (by show _ = Value.int .i64 1; exact (by simp only [upd_same, upd_ne, ne_eq, Nat.reduceEqDiff, not_false_eq_true, frame0, List.getD_cons_zero, List.getD_cons_succ])), by rw [← F.f39]; exact (by simp only [upd_same, upd_ne, ne_eq, Nat.reduceEqDiff, not_false_eq_true, frame0, List.getD_cons_zero, List.getD_cons_succ]), by rw [← F.f40]; exact (by simp only [upd_same, upd_ne, ne_eq, Nat.reduceEqDiff, not_false_eq_true, frame0, List.getD_cons_zero, List.getD_cons_succ]), by rw [← F.f41]; exact (by simp only [upd_same, upd_ne, ne_eq, Nat.reduceEqDiff, not_false_eq_true, frame0, List.getD_cons_zero, List.getD_cons_succ])⟩
    · refine (I.chg.trans' hC3 fun j h1 h2 => ?_).app
      have := I.jn
      simp only [List.mem_cons] at h1
      rcases h1 with h1 | h1 | h1 | h1
      · omega
      · omega
      · omega
      · obtain ⟨a', e1, e2⟩ := blk_mem.1 h1
        have := I.new a' e1
        omega
    · intro k hk
      have : k = 0 := by simpa using hk
      subst this
      refine ⟨rfl, hs3.app _, fun a ea => ?_⟩
      have := hq a ea
      refine ⟨by simpa [blk] using this.1, by show a.block ≠ G3.length; omega, by omega⟩
    · show G3.length ∉ _
      simp [blk]; omega
    · intro k hk a ea
      have : k = 0 := by simpa using hk
      subst this
      have := hq a ea
      simp; omega
    · intro k hk
      have : k = 0 := by simpa using hk
      subst this
      show b.length < _
      omega
theorem CrashL_ok {lim J D S area e lf n sc cp lc : Nat} {pp pl : Option Addr} {safe : List Sec} {pend : List Wr} {lost : List Bool} {H : Heap} {Q : Value → Heap → Prop} (h : Lies lim H J D S area e lf n sc pp cp safe pend) (hn : safe.length < 2 ^ 30) (hn2 : pend.length < 2 ^ 30) (hL : Sl H encB 1 pl lost) (hLS : ∀ a, pl = some a → lost ≠ [] → a.block ≠ S ∧ a.block ≠ D) (hn3 : lost.length < 2 ^ 60)
    (hQ : ∀ H', Chg [S, D] H H' → Lies lim H' J D S area e lf n sc none 0 (crashed lost pend safe) [] → Q (.tuple #[]) H') :
    CallR E false lim 13 [.pointer (some ⟨D, 0, none⟩), .slice pl lost.length lc] H Q := by
  refine Crash_ok h.jl.d h.jl.lD (fun _ => ⟨rfl, h.s, h.lS⟩) h.SD (h.jl.own.sl encW_len) (fun a e _ => ⟨h.ps a e, (h.jl.ap a e).2⟩) hL hLS (by omega) (by omega) hn3 rfl fun H' hC hD' hS' => ?_
  have hl : (crashed lost pend safe).length = safe.length := crashed_len
  exact hQ H' hC ⟨⟨hC.cells h.jl.j (by simp [h.SJ.symm, h.jl.JD]), by rw [hl]; exact hD', Own.nil, h.jl.lJ, h.jl.lD, h.jl.JD, by intro a e; cases e⟩, hS' h.ne, h.lS, h.SD, h.SJ, (by intro a e; cases e), fun e => h.ne (by rw [← List.length_eq_zero_iff, ← hl, e]; rfl)⟩
theorem take_map_app {rl bs : LR} {k : Nat} (hk : k ≤ bs.length) : ((rl ++ bs).map (·.2)).take ((rl ++ bs.take k).length) = (rl ++ bs.take k).map (·.2) := by
  rw [← List.map_take]
  congr 1
  rw [List.length_append, List.length_take, Nat.min_eq_left hk, List.take_append, List.take_of_length_le (by omega)]
  simp
theorem cra8 {B : Nat} {m : Int} {v0 v1 v2 : Value} (I : K8 lim n D S H i s G) (hn : n < 2 ^ 15) (hn4 : 4 ≤ n) (hi : i < 1000) (F : F8 D p ns c i s fr) (f11 : fr 11 = .pointer (some ⟨B, 0, none⟩)) (hB : hget G B = .cells false [v0, v1, v2, .int .u64 m]) (hlim : lim ≤ H.length) (hDl : H.length ≤ D) (hSl : H.length ≤ S)
    (hR : ∀ s' fr' G', K8 lim n D S H (i + 1) s' G' → F8 D p ns c i s' fr' → Ret E a8 lim K fr' (G' ++ []) Rt) :
    Ret E a8 lim (.code CRA8 :: K) fr (G ++ []) Rt := by
  have hf := I.fits
  have hnn := I.nn
  have hpl := I.plen
  have hlen := I.len
  have g5 := F.f5
  have g6 := F.f6
  have g8 := F.f8
  have g9 := F.f9
  have a1 := I.kd.a1
  have he := I.e
  have hlf := I.lf
  have hcl := I.chg.len
  have hDX := fun X => (Ext.refl.app (X := X)).cells I.li.jl.d
  have hBX := fun X => (Ext.refl.app (X := X)).cells hB
  have hJl := hget_alive I.li.jl.j
  have hDG := hget_alive I.li.jl.d
  have hSG := hget_alive I.li.s
  unfold CRA8 EL3 EL2 EL1 SWB SW8 B8
  simp only [l8_1, bdC, hdC, tlC, thC, elC]
  simp only [n8, r8, g6, f11, hDX, hBX, SB, Nat.reduceLT, callee, aOp, ne_eq, Nat.reduceEqDiff, aBin, aUn, if_true, if_false, reduceCtorEq, frame0, place, notTuple, Nat.reduceAdd, Nat.reduceLeDiff, resVal, dite_true, dite_false, Int.reduceEq, Int.reduceLT, Int.reduceLE]
  rw [List.append_nil]
  refine lost_ok (by omega) (by omega) fun pl cl G2 hC2 hO => ?_
  have hli2 := Chg.lies I.li hC2 (by simp)
  refine Ret_pad ?_
  simp only [n8, r8, g6, SB, Nat.reduceLT, callee, aOp, ne_eq, Nat.reduceEqDiff, aBin, aUn, if_true, if_false, reduceCtorEq, frame0, place, notTuple, Nat.reduceAdd, Nat.reduceLeDiff, resVal, dite_true, dite_false, Int.reduceEq, Int.reduceLT, Int.reduceLE]
  rw [List.append_nil]
  have hll : (lostL m s.pend.length).length = s.pend.length := lostL_len
  have hcall : ∀ Q : Value → Heap → Prop, (∀ H', Chg [S, D] G2 H' → Lies lim H' s.J D S s.area s.e s.lf s.nn n none 0 (crashed (lostL m s.pend.length) s.pend s.safe) [] → Q (.tuple #[]) H') → CallR E false lim 13 [.pointer (some ⟨D, 0, none⟩), .slice pl s.pend.length cl] G2 Q := fun Q hQ => by
    have := CrashL_ok (lc := cl) (lost := lostL m s.pend.length) hli2 (by omega) (by omega) (hO.sl encB_len) (fun a ea _ => by have := (hO.block ea).1; omega) (by omega) hQ
    rw [hll] at this
    exact this
  refine hcall _ fun G3 hC3 hli3 => ?_
  obtain ⟨k, k1, k2, _⟩ := I.kd.crash (lost := lostL m s.pend.length) I.hb (by rw [← hnn, hlen]; exact hf)
  rw [hlen, ← I.pend] at k2
  have hl3 : (crashed (lostL m s.pend.length) s.pend s.safe).length = n := by rw [crashed_len, hlen]
  generalize crashed (lostL m s.pend.length) s.pend s.safe = safe3 at hli3 k2 hl3
  obtain ⟨o1, o2, o3⟩ := k2.opened
  have hkd := o3 (by omega)
  have hC23 : Chg [S, D] G G3 := (hC2.mono (by simp)).trans hC3
  have hl23 := hC23.len
  refine Ret_pad ?_
  simp only [n8, r8, g6, SB, Nat.reduceLT, callee, aOp, ne_eq, Nat.reduceEqDiff, aBin, aUn, if_true, if_false, reduceCtorEq, frame0, place, notTuple, Nat.reduceAdd, Nat.reduceLeDiff, resVal, dite_true, dite_false, Int.reduceEq, Int.reduceLT, Int.reduceLE]
  rw [List.append_nil]
  refine Open_ok hli3.jl.d hli3.s hli3.jl.lD hli3.lS hli3.SD (by omega) (by omega) (by omega) (fun h => by rw [o1] at h; cases h) (fun G4 J4 hx hC4 hJ4 hli4 => ?_) (fun G4 J4 hx _ _ _ => by rw [o1] at hx; cases hx)
  rw [o1] at hli4
  simp only at hli4
  have hl34 := hC4.len
  have hR4 : (recs (areaD [] safe3 s.area)).1 = (s.rl ++ s.bs.take k).map (·.2) := by
    rw [areaD_of, readD_nil, hkd.recs]
  refine Ret_pad ?_
  simp only [n8, r8, g6, SB, Nat.reduceLT, callee, aOp, ne_eq, Nat.reduceEqDiff, aBin, aUn, if_true, if_false, reduceCtorEq, frame0, place, notTuple, Nat.reduceAdd, Nat.reduceLeDiff, resVal, dite_true, dite_false, Int.reduceEq, Int.reduceLT, Int.reduceLE]
  rw [List.append_nil]
  refine Records_ok hli4 (by omega) (by simp) a1 (by omega) fun G5 h5 q5 c5 d5 hC5 _ hA5 => ?_
  rw [hR4] at hA5 ⊢
  have hC45 : Chg [S, D] G G5 := (hC23.trans' hC4 (by simp)).trans' hC5 (by simp)
  have hl45 := hC45.len
  have hli5 := Chg.lies hli4 hC5 (by simp)
  have hlm := I.lm
  have hlen' : ((s.rl ++ s.bs.take k).map (·.2)).length = s.rl.length + k := by
    rw [List.length_map, List.length_append, List.length_take, Nat.min_eq_left k1]
  have hlenl : s.l.length = s.rl.length + s.bs.length := by rw [hlm, List.length_map, List.length_append]
  have hpos : 0 < s.rl.length := List.length_pos_iff.2 I.kd.ar.ne
  rw [hlen']
  have c1 : ¬ (((s.rl.length + k : Nat) : Int) < (s.rl.length : Int)) := by omega
  have c2 : ¬ ((s.l.length : Int) < ((s.rl.length + k : Nat) : Int)) := by omega
  have hsl := sliceV_pre (R := s.R) (n := s.l.length) (k := s.rl.length + k) (cq := s.cq) (by omega) (by rcases I.mod.cap with h | ⟨h, h'⟩ <;> rw [h] <;> first | (unfold loose; have := I.llen; omega) | omega) (by rcases I.mod.cap with h | ⟨h, _⟩; exact .inl h; exact .inr (by omega)) (by omega)
  refine Ret_pad ?_
  simp only [n8, r8, g8, g9, c1, c2, hsl, SB, Nat.reduceLT, callee, aOp, ne_eq, Nat.reduceEqDiff, aBin, aUn, if_true, if_false, reduceCtorEq, frame0, place, notTuple, Nat.reduceAdd, Nat.reduceLeDiff, resVal, dite_true, dite_false, Int.reduceEq, Int.reduceLT, Int.reduceLE]
  rw [List.append_nil]
  refine Ret_pad ?_
  obtain ⟨rest, hRb⟩ := I.mod.blkR
  have hRl := hget_alive hRb
  have hmod := (((I.mod.chg hC45 (fun j hj => .inl (by simp only [List.mem_cons, List.not_mem_nil, or_false] at hj ⊢; omega))).away (g := G.length) (B := J4 :: D :: S :: blk none) hRl (fun j hj => by
    simp only [List.mem_cons, blk, List.not_mem_nil, or_false] at hj ⊢
    omega) I.rsz).cut (k := s.rl.length + k) (by omega) (by omega))
  have htk : s.l.take (s.rl.length + k) = (s.rl ++ s.bs.take k).map (·.2) := by
    have := take_map_app (rl := s.rl) (bs := s.bs) k1
    rw [hlm]
    rw [List.length_append, List.length_take, Nat.min_eq_left k1] at this
    exact this
  have hltk : (s.l.take (s.rl.length + k)).length = s.rl.length + k := by rw [List.length_take]; omega
  have gtk : ∀ j, j < s.rl.length + k → gt (s.l.take (s.rl.length + k)) j = gt s.l j := fun j hj => by unfold gt; rw [List.getD_eq_getElem?_getD, List.getD_eq_getElem?_getD, List.getElem?_take, if_pos hj]
  have gdk : ∀ j, j < s.rl.length + k → gt (s.ds.take (s.rl.length + k)) j = gt s.ds j := fun j hj => by unfold gt; rw [List.getD_eq_getElem?_getD, List.getD_eq_getElem?_getD, List.getElem?_take, if_pos hj]
  have hsz : lsize (s.rl ++ s.bs.take k) ≤ n / 2 := by
    have h2 : lsize s.bs = lsize (s.bs.take k) + lsize (s.bs.drop k) := by rw [← lsize_append, List.take_append_drop]
    rw [lsize_append]
    omega
  refine hR ⟨J4, s.area, s.e, (opG safe3).2 + 1, lsize (s.rl ++ s.bs.take k), none, 0, safe3, [], s.rl ++ s.bs.take k, [], s.R, s.cq, s.ds.take (s.rl.length + k), s.l.take (s.rl.length + k)⟩ _ G5 ⟨hli5, hkd, by simp, hl3, rfl, hsz, rfl, by show (opG safe3).2 + 1 ≤ _; omega, by show s.e ≤ _; omega, ?_, (by intro a ea; cases ea), by show H.length ≤ J4; omega, by rw [List.append_nil]; exact htk, hmod, fun j hj a ea => ?_, fun j hj => ?_, ?_⟩ ⟨(by simp only [upd_same, upd_ne, ne_eq, Nat.reduceEqDiff, not_false_eq_true, frame0, List.getD_cons_zero, List.getD_cons_succ]), (by simp only [g6, upd_same, upd_ne, ne_eq, Nat.reduceEqDiff, not_false_eq_true, frame0, List.getD_cons_zero, List.getD_cons_succ]), ?_, ?_, by rw [← F.f39]; exact (by simp only [upd_same, upd_ne, ne_eq, Nat.reduceEqDiff, not_false_eq_true, frame0, List.getD_cons_zero, List.getD_cons_succ]), by rw [← F.f40]; exact (by simp only [upd_same, upd_ne, ne_eq, Nat.reduceEqDiff, not_false_eq_true, frame0, List.getD_cons_zero, List.getD_cons_succ]), by rw [← F.f41]; exact (by simp only [upd_same, upd_ne, ne_eq, Nat.reduceEqDiff, not_false_eq_true, frame0, List.getD_cons_zero, List.getD_cons_succ])⟩
  · exact I.chg.trans' hC45 fun j h1 h2 => by
      simp only [List.mem_cons, List.not_mem_nil, or_false] at h1; omega
  · change j < (s.l.take (s.rl.length + k)).length at hj
    rw [hltk] at hj
    change (gt (s.ds.take (s.rl.length + k)) j).1 = some a at ea
    rw [gdk j hj] at ea
    have := I.rsz j (by omega) a ea
    omega
  · change j < (s.l.take (s.rl.length + k)).length at hj
    rw [hltk] at hj
    show (gt (s.l.take (s.rl.length + k)) j).length < _
    rw [gtk j hj]
    exact I.rlen j (by omega)
  · show (s.l.take (s.rl.length + k)).length ≤ _
    have := I.llen
    omega
  · show _ = Value.slice (some ⟨s.R, 0, none⟩) (s.l.take (s.rl.length + k)).length s.cq
    rw [hltk]
    exact (by simp only [upd_same, upd_ne, ne_eq, Nat.reduceEqDiff, not_false_eq_true, frame0, List.getD_cons_zero, List.getD_cons_succ])
  · show _ = Value.int .i64 ((s.rl ++ s.bs.take k).length : Int)
    rw [List.length_append, List.length_take, Nat.min_eq_left k1]
    exact (by simp only [upd_same, upd_ne, ne_eq, Nat.reduceEqDiff, not_false_eq_true, frame0, List.getD_cons_zero, List.getD_cons_succ])
end
end Go.Proofs.Ytdddehniepofmaa.Fn
namespace Go.Proofs.Ytdddehniepofmaa.Fn
open Go.AM Go.AM.Sym
set_option maxRecDepth 100000
set_option linter.unusedVariables false
set_option linter.unusedSimpArgs false
set_option maxHeartbeats 4000000

section
variable {lim n D S i ns c : Nat} {p : Option Addr} {H : Heap} {s : S8} {G : Heap} {fr : Nat → Value} {K : List AItem} {Rt : Value → Heap → Prop} {h : Nat} {q : Option Addr} {cb : Nat} {b : List UInt8}
theorem sw8 {B : Nat} {x : UInt8} {m : Int} {v1 v2 : Value} (I : K8 lim n D S H i s G) (hn : n < 2 ^ 15) (hn4 : 4 ≤ n) (hi : i < 1000) (F : F8 D p ns c i s fr) (N : NewB h H D S s G q cb b) (f11 : fr 11 = .pointer (some ⟨B, 0, none⟩)) (f12 : fr 12 = .slice q b.length cb) (hB : hget G B = .cells false [.int .u8 (x.toNat : Int), v1, v2, .int .u64 m]) (hlim : lim ≤ H.length) (hDl : H.length ≤ D) (hSl : H.length ≤ S)
    (hR : ∀ s' fr' G', K8 lim n D S H (i + 1) s' G' → F8 D p ns c i s' fr' → Ret E a8 lim K fr' (G' ++ []) Rt) :
    Ret E a8 lim (.code SW8 :: K) fr (G ++ []) Rt := by
  have g5 := F.f5
  have g6 := F.f6
  have g8 := F.f8
  have g9 := F.f9
  have hBX := fun X => (Ext.refl.app (X := X)).cells hB
  rw [Ret_code SW8_cut]
  simp only [SW8, SWB, EL1, EL2, EL3, B8, l8_1, bdC, hdC, tlC, thC, elC]
  have key : ∀ r : Nat, x.toNat % 8 = r → Int.tmod (x.toNat : Int) 8 = (r : Int) := fun r hr => by
    rw [show Int.tmod (x.toNat : Int) 8 = ((x.toNat % 8 : Nat) : Int) from rfl, hr]
  have hr : x.toNat % 8 < 8 := by omega
  obtain ⟨r, er⟩ : ∃ r, x.toNat % 8 = r := ⟨_, rfl⟩
  rw [er] at hr
  have hk := key r er
  clear key
  rcases (show r = 0 ∨ r = 1 ∨ r = 2 ∨ r = 3 ∨ r = 4 ∨ r = 5 ∨ r = 6 ∨ r = 7 by omega) with rfl | rfl | rfl | rfl | rfl | rfl | rfl | rfl
  · simp only [Int.cast_ofNat_Int] at hk
    simp only [n8, r8, f11, hBX, hk, SB, Nat.reduceLT, callee, aOp, ne_eq, Nat.reduceEqDiff, aBin, aUn, if_true, if_false, reduceCtorEq, frame0, place, notTuple, Nat.reduceAdd, Nat.reduceLeDiff, resVal, dite_true, dite_false, Int.reduceEq, Int.reduceLT, Int.reduceLE]
    refine app8 (s := s) (n := n) (q := q) (cb := cb) (b := b) (h := h) I (by omega) hi ⟨(by simp only [g5, upd_same, upd_ne, ne_eq, Nat.reduceEqDiff, not_false_eq_true, frame0, List.getD_cons_zero, List.getD_cons_succ]), (by simp only [g6, upd_same, upd_ne, ne_eq, Nat.reduceEqDiff, not_false_eq_true, frame0, List.getD_cons_zero, List.getD_cons_succ]), (by simp only [g8, upd_same, upd_ne, ne_eq, Nat.reduceEqDiff, not_false_eq_true, frame0, List.getD_cons_zero, List.getD_cons_succ]), (by simp only [g9, upd_same, upd_ne, ne_eq, Nat.reduceEqDiff, not_false_eq_true, frame0, List.getD_cons_zero, List.getD_cons_succ]), by rw [← F.f39]; exact (by simp only [upd_same, upd_ne, ne_eq, Nat.reduceEqDiff, not_false_eq_true, frame0, List.getD_cons_zero, List.getD_cons_succ]), by rw [← F.f40]; exact (by simp only [upd_same, upd_ne, ne_eq, Nat.reduceEqDiff, not_false_eq_true, frame0, List.getD_cons_zero, List.getD_cons_succ]), by rw [← F.f41]; exact (by simp only [upd_same, upd_ne, ne_eq, Nat.reduceEqDiff, not_false_eq_true, frame0, List.getD_cons_zero, List.getD_cons_succ])⟩ N (by simp only [f12, upd_same, upd_ne, ne_eq, Nat.reduceEqDiff, not_false_eq_true, frame0, List.getD_cons_zero, List.getD_cons_succ]) hlim hDl hSl fun s' fr' G' I' F' => ?_
    simp only [n8, r8, SB, Nat.reduceLT, callee, aOp, ne_eq, Nat.reduceEqDiff, aBin, aUn, if_true, if_false, reduceCtorEq, frame0, place, notTuple, Nat.reduceAdd, Nat.reduceLeDiff, resVal, dite_true, dite_false, Int.reduceEq, Int.reduceLT, Int.reduceLE]
    exact hR _ _ _ I' F'
  · simp only [Int.cast_ofNat_Int] at hk
    simp only [n8, r8, f11, hBX, hk, SB, Nat.reduceLT, callee, aOp, ne_eq, Nat.reduceEqDiff, aBin, aUn, if_true, if_false, reduceCtorEq, frame0, place, notTuple, Nat.reduceAdd, Nat.reduceLeDiff, resVal, dite_true, dite_false, Int.reduceEq, Int.reduceLT, Int.reduceLE]
    refine app8 (s := s) (n := n) (q := q) (cb := cb) (b := b) (h := h) I (by omega) hi ⟨(by simp only [g5, upd_same, upd_ne, ne_eq, Nat.reduceEqDiff, not_false_eq_true, frame0, List.getD_cons_zero, List.getD_cons_succ]), (by simp only [g6, upd_same, upd_ne, ne_eq, Nat.reduceEqDiff, not_false_eq_true, frame0, List.getD_cons_zero, List.getD_cons_succ]), (by simp only [g8, upd_same, upd_ne, ne_eq, Nat.reduceEqDiff, not_false_eq_true, frame0, List.getD_cons_zero, List.getD_cons_succ]), (by simp only [g9, upd_same, upd_ne, ne_eq, Nat.reduceEqDiff, not_false_eq_true, frame0, List.getD_cons_zero, List.getD_cons_succ]), by rw [← F.f39]; exact (by simp only [upd_same, upd_ne, ne_eq, Nat.reduceEqDiff, not_false_eq_true, frame0, List.getD_cons_zero, List.getD_cons_succ]), by rw [← F.f40]; exact (by simp only [upd_same, upd_ne, ne_eq, Nat.reduceEqDiff, not_false_eq_true, frame0, List.getD_cons_zero, List.getD_cons_succ]), by rw [← F.f41]; exact (by simp only [upd_same, upd_ne, ne_eq, Nat.reduceEqDiff, not_false_eq_true, frame0, List.getD_cons_zero, List.getD_cons_succ])⟩ N (by simp only [f12, upd_same, upd_ne, ne_eq, Nat.reduceEqDiff, not_false_eq_true, frame0, List.getD_cons_zero, List.getD_cons_succ]) hlim hDl hSl fun s' fr' G' I' F' => ?_
    simp only [n8, r8, SB, Nat.reduceLT, callee, aOp, ne_eq, Nat.reduceEqDiff, aBin, aUn, if_true, if_false, reduceCtorEq, frame0, place, notTuple, Nat.reduceAdd, Nat.reduceLeDiff, resVal, dite_true, dite_false, Int.reduceEq, Int.reduceLT, Int.reduceLE]
    exact hR _ _ _ I' F'
  · simp only [Int.cast_ofNat_Int] at hk
    simp only [n8, r8, f11, hBX, hk, SB, Nat.reduceLT, callee, aOp, ne_eq, Nat.reduceEqDiff, aBin, aUn, if_true, if_false, reduceCtorEq, frame0, place, notTuple, Nat.reduceAdd, Nat.reduceLeDiff, resVal, dite_true, dite_false, Int.reduceEq, Int.reduceLT, Int.reduceLE]
    refine app8 (s := s) (n := n) (q := q) (cb := cb) (b := b) (h := h) I (by omega) hi ⟨(by simp only [g5, upd_same, upd_ne, ne_eq, Nat.reduceEqDiff, not_false_eq_true, frame0, List.getD_cons_zero, List.getD_cons_succ]), (by simp only [g6, upd_same, upd_ne, ne_eq, Nat.reduceEqDiff, not_false_eq_true, frame0, List.getD_cons_zero, List.getD_cons_succ]), (by simp only [g8, upd_same, upd_ne, ne_eq, Nat.reduceEqDiff, not_false_eq_true, frame0, List.getD_cons_zero, List.getD_cons_succ]), (by simp only [g9, upd_same, upd_ne, ne_eq, Nat.reduceEqDiff, not_false_eq_true, frame0, List.getD_cons_zero, List.getD_cons_succ]), by rw [← F.f39]; exact (by simp only [upd_same, upd_ne, ne_eq, Nat.reduceEqDiff, not_false_eq_true, frame0, List.getD_cons_zero, List.getD_cons_succ]), by rw [← F.f40]; exact (by simp only [upd_same, upd_ne, ne_eq, Nat.reduceEqDiff, not_false_eq_true, frame0, List.getD_cons_zero, List.getD_cons_succ]), by rw [← F.f41]; exact (by simp only [upd_same, upd_ne, ne_eq, Nat.reduceEqDiff, not_false_eq_true, frame0, List.getD_cons_zero, List.getD_cons_succ])⟩ N (by simp only [f12, upd_same, upd_ne, ne_eq, Nat.reduceEqDiff, not_false_eq_true, frame0, List.getD_cons_zero, List.getD_cons_succ]) hlim hDl hSl fun s' fr' G' I' F' => ?_
    simp only [n8, r8, SB, Nat.reduceLT, callee, aOp, ne_eq, Nat.reduceEqDiff, aBin, aUn, if_true, if_false, reduceCtorEq, frame0, place, notTuple, Nat.reduceAdd, Nat.reduceLeDiff, resVal, dite_true, dite_false, Int.reduceEq, Int.reduceLT, Int.reduceLE]
    exact hR _ _ _ I' F'
  · simp only [Int.cast_ofNat_Int] at hk
    simp only [n8, r8, f11, hBX, hk, SB, Nat.reduceLT, callee, aOp, ne_eq, Nat.reduceEqDiff, aBin, aUn, if_true, if_false, reduceCtorEq, frame0, place, notTuple, Nat.reduceAdd, Nat.reduceLeDiff, resVal, dite_true, dite_false, Int.reduceEq, Int.reduceLT, Int.reduceLE]
    refine app8 (s := s) (n := n) (q := q) (cb := cb) (b := b) (h := h) I (by omega) hi ⟨(by simp only [g5, upd_same, upd_ne, ne_eq, Nat.reduceEqDiff, not_false_eq_true, frame0, List.getD_cons_zero, List.getD_cons_succ]), (by simp only [g6, upd_same, upd_ne, ne_eq, Nat.reduceEqDiff, not_false_eq_true, frame0, List.getD_cons_zero, List.getD_cons_succ]), (by simp only [g8, upd_same, upd_ne, ne_eq, Nat.reduceEqDiff, not_false_eq_true, frame0, List.getD_cons_zero, List.getD_cons_succ]), (by simp only [g9, upd_same, upd_ne, ne_eq, Nat.reduceEqDiff, not_false_eq_true, frame0, List.getD_cons_zero, List.getD_cons_succ]), by rw [← F.f39]; exact (by simp only [upd_same, upd_ne, ne_eq, Nat.reduceEqDiff, not_false_eq_true, frame0, List.getD_cons_zero, List.getD_cons_succ]), by rw [← F.f40]; exact (by simp only [upd_same, upd_ne, ne_eq, Nat.reduceEqDiff, not_false_eq_true, frame0, List.getD_cons_zero, List.getD_cons_succ]), by rw [← F.f41]; exact (by simp only [upd_same, upd_ne, ne_eq, Nat.reduceEqDiff, not_false_eq_true, frame0, List.getD_cons_zero, List.getD_cons_succ])⟩ N (by simp only [f12, upd_same, upd_ne, ne_eq, Nat.reduceEqDiff, not_false_eq_true, frame0, List.getD_cons_zero, List.getD_cons_succ]) hlim hDl hSl fun s' fr' G' I' F' => ?_
    simp only [n8, r8, SB, Nat.reduceLT, callee, aOp, ne_eq, Nat.reduceEqDiff, aBin, aUn, if_true, if_false, reduceCtorEq, frame0, place, notTuple, Nat.reduceAdd, Nat.reduceLeDiff, resVal, dite_true, dite_false, Int.reduceEq, Int.reduceLT, Int.reduceLE]
    exact hR _ _ _ I' F'
  · simp only [Int.cast_ofNat_Int] at hk
    simp only [n8, r8, f11, hBX, hk, SB, Nat.reduceLT, callee, aOp, ne_eq, Nat.reduceEqDiff, aBin, aUn, if_true, if_false, reduceCtorEq, frame0, place, notTuple, Nat.reduceAdd, Nat.reduceLeDiff, resVal, dite_true, dite_false, Int.reduceEq, Int.reduceLT, Int.reduceLE]
    refine com8 (s := s) (n := n) I (by omega) ⟨(by simp only [g5, upd_same, upd_ne, ne_eq, Nat.reduceEqDiff, not_false_eq_true, frame0, List.getD_cons_zero, List.getD_cons_succ]), (by simp only [g6, upd_same, upd_ne, ne_eq, Nat.reduceEqDiff, not_false_eq_true, frame0, List.getD_cons_zero, List.getD_cons_succ]), (by simp only [g8, upd_same, upd_ne, ne_eq, Nat.reduceEqDiff, not_false_eq_true, frame0, List.getD_cons_zero, List.getD_cons_succ]), (by simp only [g9, upd_same, upd_ne, ne_eq, Nat.reduceEqDiff, not_false_eq_true, frame0, List.getD_cons_zero, List.getD_cons_succ]), by rw [← F.f39]; exact (by simp only [upd_same, upd_ne, ne_eq, Nat.reduceEqDiff, not_false_eq_true, frame0, List.getD_cons_zero, List.getD_cons_succ]), by rw [← F.f40]; exact (by simp only [upd_same, upd_ne, ne_eq, Nat.reduceEqDiff, not_false_eq_true, frame0, List.getD_cons_zero, List.getD_cons_succ]), by rw [← F.f41]; exact (by simp only [upd_same, upd_ne, ne_eq, Nat.reduceEqDiff, not_false_eq_true, frame0, List.getD_cons_zero, List.getD_cons_succ])⟩ (hDl := hDl) (hSl := hSl) (hR := fun s' fr' G' I' F' => ?_)
    simp only [n8, r8, SB, Nat.reduceLT, callee, aOp, ne_eq, Nat.reduceEqDiff, aBin, aUn, if_true, if_false, reduceCtorEq, frame0, place, notTuple, Nat.reduceAdd, Nat.reduceLeDiff, resVal, dite_true, dite_false, Int.reduceEq, Int.reduceLT, Int.reduceLE]
    exact hR _ _ _ (I'.step (by omega)) F'
  · simp only [Int.cast_ofNat_Int] at hk
    simp only [n8, r8, f11, hBX, hk, SB, Nat.reduceLT, callee, aOp, ne_eq, Nat.reduceEqDiff, aBin, aUn, if_true, if_false, reduceCtorEq, frame0, place, notTuple, Nat.reduceAdd, Nat.reduceLeDiff, resVal, dite_true, dite_false, Int.reduceEq, Int.reduceLT, Int.reduceLE]
    refine chk8 (s := s) (n := n) (q := q) (cb := cb) (b := b) (h := h) I (by omega) hi ⟨(by simp only [g5, upd_same, upd_ne, ne_eq, Nat.reduceEqDiff, not_false_eq_true, frame0, List.getD_cons_zero, List.getD_cons_succ]), (by simp only [g6, upd_same, upd_ne, ne_eq, Nat.reduceEqDiff, not_false_eq_true, frame0, List.getD_cons_zero, List.getD_cons_succ]), (by simp only [g8, upd_same, upd_ne, ne_eq, Nat.reduceEqDiff, not_false_eq_true, frame0, List.getD_cons_zero, List.getD_cons_succ]), (by simp only [g9, upd_same, upd_ne, ne_eq, Nat.reduceEqDiff, not_false_eq_true, frame0, List.getD_cons_zero, List.getD_cons_succ]), by rw [← F.f39]; exact (by simp only [upd_same, upd_ne, ne_eq, Nat.reduceEqDiff, not_false_eq_true, frame0, List.getD_cons_zero, List.getD_cons_succ]), by rw [← F.f40]; exact (by simp only [upd_same, upd_ne, ne_eq, Nat.reduceEqDiff, not_false_eq_true, frame0, List.getD_cons_zero, List.getD_cons_succ]), by rw [← F.f41]; exact (by simp only [upd_same, upd_ne, ne_eq, Nat.reduceEqDiff, not_false_eq_true, frame0, List.getD_cons_zero, List.getD_cons_succ])⟩ N (by simp only [f12, upd_same, upd_ne, ne_eq, Nat.reduceEqDiff, not_false_eq_true, frame0, List.getD_cons_zero, List.getD_cons_succ]) hlim hDl hSl fun s' fr' G' I' F' => ?_
    simp only [n8, r8, SB, Nat.reduceLT, callee, aOp, ne_eq, Nat.reduceEqDiff, aBin, aUn, if_true, if_false, reduceCtorEq, frame0, place, notTuple, Nat.reduceAdd, Nat.reduceLeDiff, resVal, dite_true, dite_false, Int.reduceEq, Int.reduceLT, Int.reduceLE]
    exact hR _ _ _ I' F'
  · simp only [Int.cast_ofNat_Int] at hk
    simp only [n8, r8, f11, hBX, hk, SB, Nat.reduceLT, callee, aOp, ne_eq, Nat.reduceEqDiff, aBin, aUn, if_true, if_false, reduceCtorEq, frame0, place, notTuple, Nat.reduceAdd, Nat.reduceLeDiff, resVal, dite_true, dite_false, Int.reduceEq, Int.reduceLT, Int.reduceLE]
    refine cra8 (s := s) (n := n) (B := B) I hn hn4 hi ⟨(by simp only [g5, upd_same, upd_ne, ne_eq, Nat.reduceEqDiff, not_false_eq_true, frame0, List.getD_cons_zero, List.getD_cons_succ]), (by simp only [g6, upd_same, upd_ne, ne_eq, Nat.reduceEqDiff, not_false_eq_true, frame0, List.getD_cons_zero, List.getD_cons_succ]), (by simp only [g8, upd_same, upd_ne, ne_eq, Nat.reduceEqDiff, not_false_eq_true, frame0, List.getD_cons_zero, List.getD_cons_succ]), (by simp only [g9, upd_same, upd_ne, ne_eq, Nat.reduceEqDiff, not_false_eq_true, frame0, List.getD_cons_zero, List.getD_cons_succ]), by rw [← F.f39]; exact (by simp only [upd_same, upd_ne, ne_eq, Nat.reduceEqDiff, not_false_eq_true, frame0, List.getD_cons_zero, List.getD_cons_succ]), by rw [← F.f40]; exact (by simp only [upd_same, upd_ne, ne_eq, Nat.reduceEqDiff, not_false_eq_true, frame0, List.getD_cons_zero, List.getD_cons_succ]), by rw [← F.f41]; exact (by simp only [upd_same, upd_ne, ne_eq, Nat.reduceEqDiff, not_false_eq_true, frame0, List.getD_cons_zero, List.getD_cons_succ])⟩ (by simp only [f11, upd_same, upd_ne, ne_eq, Nat.reduceEqDiff, not_false_eq_true, frame0, List.getD_cons_zero, List.getD_cons_succ]) hB hlim hDl hSl fun s' fr' G' I' F' => ?_
    simp only [n8, r8, SB, Nat.reduceLT, callee, aOp, ne_eq, Nat.reduceEqDiff, aBin, aUn, if_true, if_false, reduceCtorEq, frame0, place, notTuple, Nat.reduceAdd, Nat.reduceLeDiff, resVal, dite_true, dite_false, Int.reduceEq, Int.reduceLT, Int.reduceLE]
    exact hR _ _ _ I' F'
  · simp only [Int.cast_ofNat_Int] at hk
    simp only [n8, r8, f11, hBX, hk, SB, Nat.reduceLT, callee, aOp, ne_eq, Nat.reduceEqDiff, aBin, aUn, if_true, if_false, reduceCtorEq, frame0, place, notTuple, Nat.reduceAdd, Nat.reduceLeDiff, resVal, dite_true, dite_false, Int.reduceEq, Int.reduceLT, Int.reduceLE]
    refine cra8 (s := s) (n := n) (B := B) I hn hn4 hi ⟨(by simp only [g5, upd_same, upd_ne, ne_eq, Nat.reduceEqDiff, not_false_eq_true, frame0, List.getD_cons_zero, List.getD_cons_succ]), (by simp only [g6, upd_same, upd_ne, ne_eq, Nat.reduceEqDiff, not_false_eq_true, frame0, List.getD_cons_zero, List.getD_cons_succ]), (by simp only [g8, upd_same, upd_ne, ne_eq, Nat.reduceEqDiff, not_false_eq_true, frame0, List.getD_cons_zero, List.getD_cons_succ]), (by simp only [g9, upd_same, upd_ne, ne_eq, Nat.reduceEqDiff, not_false_eq_true, frame0, List.getD_cons_zero, List.getD_cons_succ]), by rw [← F.f39]; exact (by simp only [upd_same, upd_ne, ne_eq, Nat.reduceEqDiff, not_false_eq_true, frame0, List.getD_cons_zero, List.getD_cons_succ]), by rw [← F.f40]; exact (by simp only [upd_same, upd_ne, ne_eq, Nat.reduceEqDiff, not_false_eq_true, frame0, List.getD_cons_zero, List.getD_cons_succ]), by rw [← F.f41]; exact (by simp only [upd_same, upd_ne, ne_eq, Nat.reduceEqDiff, not_false_eq_true, frame0, List.getD_cons_zero, List.getD_cons_succ])⟩ (by simp only [f11, upd_same, upd_ne, ne_eq, Nat.reduceEqDiff, not_false_eq_true, frame0, List.getD_cons_zero, List.getD_cons_succ]) hB hlim hDl hSl fun s' fr' G' I' F' => ?_
    simp only [n8, r8, SB, Nat.reduceLT, callee, aOp, ne_eq, Nat.reduceEqDiff, aBin, aUn, if_true, if_false, reduceCtorEq, frame0, place, notTuple, Nat.reduceAdd, Nat.reduceLeDiff, resVal, dite_true, dite_false, Int.reduceEq, Int.reduceLT, Int.reduceLE]
    exact hR _ _ _ I' F'
end
theorem begin8 {n D S J cq h0 : Nat} {H G0 G : Heap} {ds : List Desc} {q : Option Addr} (hn4 : 4 ≤ n) (hn : n < 2 ^ 15) (hC0 : Chg [] H G0) (hJ : H.length ≤ J) (hD : H.length ≤ D) (hS : H.length ≤ S) (hL : Lies H.length G0 J D S 0 1 1 1 n none 0 (safe0 n) []) (hC : Chg [] G0 G) (h0l : G0.length ≤ h0) (hA : RowsAt h0 G q cq ds (recs (areaD [] (safe0 n) 0)).1) :
    (recs (areaD [] (safe0 n) 0)).1 = [[]] ∧ ∃ R q0 c0, q = some ⟨R, 0, none⟩ ∧ hget G R = .cells false [.slice q0 0 c0] ∧ K8 H.length n D S H 0 ⟨J, 0, 1, 1, 1, none, 0, safe0 n, [], [(1, [])], [], R, cq, ds, [[]]⟩ G := by
  have hkd := KD.begun n hn4 (by omega)
  have hr : (recs (areaD [] (safe0 n) 0)).1 = [[]] := by
    rw [areaD_of, readD_nil, hkd.recs]; rfl
  rw [hr] at hA
  have hlen : ds.length = 1 := hA.len
  obtain ⟨a1, a2⟩ := hA.row 0 (by simp)
  have hC0l := hC0.len
  have hCl := hC.len
  rcases hA.own with ⟨h1, _, _⟩ | ⟨R, h1, h2, h3, h4⟩
  · rw [h1] at hlen; cases hlen
  have hJl := hget_alive hL.jl.j
  have hDl := hget_alive hL.jl.d
  have hSl := hget_alive hL.s
  obtain ⟨⟨q0, l0, c0⟩, hds⟩ := List.length_eq_one_iff.1 hlen
  have hl0 : l0 = 0 := by rw [hds] at a1; exact a1
  have h3' := h3
  rw [hds, hl0] at h3'
  refine ⟨hr, R, q0, c0, h1, h3', ⟨Chg.lies hL hC (by simp), hkd, by simp, safe0_len n, rfl, by show 1 ≤ n / 2; omega, rfl, Nat.le_refl _, Nat.le_refl _, hC0.trans' hC (by simp), (by intro a ea; cases ea), hJ, rfl, ⟨⟨[], by rw [List.append_nil]; exact h3⟩, .inl h2, by simp, hlen, fun k hk => ?_, by show H.length ≤ R; omega, ?_⟩, fun k hk a ea => ?_, fun k hk => ?_, Nat.le_refl _⟩⟩
  · have : k = 0 := by simpa using hk
    subst this
    refine ⟨a1, a2.sl encb_len, fun a ea => ?_⟩
    have k1 := (a2.block ea).1
    refine ⟨?_, hA.ap 0 (by simp) a _ ea h1, by omega⟩
    simp [blk]; omega
  · show R ∉ _
    simp [blk]; omega
  · have : k = 0 := by simpa using hk
    subst this
    exact (a2.block ea).2
  · have : k = 0 := by simpa using hk
    subst this
    show ([] : List UInt8).length < _
    simp
theorem JournalKeeps_ok {mp : Bool} {lim c : Nat} {y : UInt8} {p : Option Addr} {steps : List Stp} {H : Heap} {Q : Value → Heap → Prop} (hs : Sl H encS 4 p steps) (hn : steps.length < 2 ^ 63) :
    CallR E mp lim 8 [.int .u8 (y.toNat : Int), .slice p steps.length c] H Q = Q (.bool true) H := by
  refine pc (by decide) e8 rfl rfl ?_
  rw [b8, c8]
  simp only [n8, r8, awake_ok, Bool.not_true, SB, Nat.reduceLT, callee, aOp, ne_eq, Nat.reduceEqDiff, aBin, aUn, if_true, if_false, reduceCtorEq, frame0, place, notTuple, Nat.reduceAdd, Nat.reduceLeDiff, resVal, dite_true, dite_false, Int.reduceEq, Int.reduceLT, Int.reduceLE]
  rw [List.append_nil]
  refine begun_ok (Nat.le_refl _) fun G0 J D S hC0 hJ hD hS hL => ?_
  have hyl : 4 + y.toNat % 64 < 68 := by omega
  generalize hnn : 4 + y.toNat % 64 = n at hL hyl
  have hn4 : 4 ≤ n := by omega
  have hC0l := hC0.len
  refine Ret_pad ?_
  simp only [n8, r8, Bool.not_true, SB, Nat.reduceLT, callee, aOp, ne_eq, Nat.reduceEqDiff, aBin, aUn, if_true, if_false, reduceCtorEq, frame0, place, notTuple, Nat.reduceAdd, Nat.reduceLeDiff, resVal, dite_true, dite_false, Int.reduceEq, Int.reduceLT, Int.reduceLE]
  rw [List.append_nil]
  refine Records_ok hL (by rw [safe0_len]; omega) (by simp) (by omega) (by omega) fun G1 h0 q cq ds hC1 h0l hA => ?_
  obtain ⟨hr, R, q0, c0, rfl, hR0, I0⟩ := begin8 hn4 (by omega) hC0 hJ hD hS hL hC1 h0l hA
  rw [hr] at hA ⊢
  have hRX := fun X => (Ext.refl.app (X := X)).cells hR0
  have hC1l := hC1.len
  refine Ret_pad ?_
  simp only [n8, r8, hRX, SB, Nat.reduceLT, callee, aOp, ne_eq, Nat.reduceEqDiff, aBin, aUn, if_true, if_false, reduceCtorEq, frame0, place, notTuple, Nat.reduceAdd, Nat.reduceLeDiff, resVal, dite_true, dite_false, Int.reduceEq, Int.reduceLT, Int.reduceLE]
  refine Ret_rounds (fun s : Nat × S8 => steps.length - s.1) (fun s fr G => s.1 ≤ steps.length ∧ s.1 ≤ 30 ∧ K8 H.length n D S H s.1 s.2 G ∧ F8 D p steps.length c s.1 s.2 fr) (0, ⟨J, 0, 1, 1, 1, none, 0, safe0 n, [], [(1, [])], [], R, cq, ds, [[]]⟩)
    ⟨Nat.zero_le _, Nat.zero_le _, by rw [List.append_nil]; exact I0, (by simp only [upd_same, upd_ne, ne_eq, Nat.reduceEqDiff, not_false_eq_true, frame0, List.getD_cons_zero, List.getD_cons_succ]), (by simp only [upd_same, upd_ne, ne_eq, Nat.reduceEqDiff, not_false_eq_true, frame0, List.getD_cons_zero, List.getD_cons_succ]), by show _ = Value.slice _ 1 _; exact (by simp only [upd_same, upd_ne, ne_eq, Nat.reduceEqDiff, not_false_eq_true, frame0, List.getD_cons_zero, List.getD_cons_succ]), by show _ = Value.int .i64 1; exact (by simp only [upd_same, upd_ne, ne_eq, Nat.reduceEqDiff, not_false_eq_true, frame0, List.getD_cons_zero, List.getD_cons_succ]), (by simp only [upd_same, upd_ne, ne_eq, Nat.reduceEqDiff, not_false_eq_true, frame0, List.getD_cons_zero, List.getD_cons_succ]), (by simp only [upd_same, upd_ne, ne_eq, Nat.reduceEqDiff, not_false_eq_true, frame0, List.getD_cons_zero, List.getD_cons_succ]), by rfl⟩ ?_
  rintro ⟨i, s⟩ fr G ⟨hi, hi30, I, F⟩ hN
  simp only at hi hi30 I F
  have g5 := F.f5
  have g6 := F.f6
  have g8 := F.f8
  have g9 := F.f9
  have g39 := F.f39
  have g40 := F.f40
  have g41 := F.f41
  obtain ⟨L, hL⟩ : ∃ L, L = l8_1 := ⟨_, rfl⟩
  have hI : AItem.inLoop l8_1 = AItem.inLoop L := by rw [hL]
  rw [hI] at hN ⊢
  rw [Ret_code l8_cut]
  simp only [l8_1, B8, bdC, hdC, tlC]
  refine Ret_pad ?_
  have hCl := I.chg.len
  by_cases hlt : i < steps.length
  · have hsG := I.chg.sl hs (by simp)
    have hld := fun X => (hsG.app X).loadCells encS_len hlt
    have hidx := fun c (k : IntKind) (H1 : Heap) => hsG.idx (c := c) (k := k) (H1 := H1) hlt
    have hw1 : IntKind.i64.wrap ((i : Int) + 1) = ((i + 1 : Nat) : Int) := wrap_nat (by omega)
    simp only [encS] at hld
    by_cases h30 : i = 30
    · have h30' : ((i : Int) = 30) = True := eq_true (by omega)
      simp only [n8, r8, g5, g6, g8, g9, g39, g40, g41, hlt, hld, hidx, h30', hCl, SB, Nat.reduceLT, callee, aOp, ne_eq, Nat.reduceEqDiff, aBin, aUn, if_true, if_false, reduceCtorEq, frame0, place, notTuple, Nat.reduceAdd, Nat.reduceLeDiff, resVal, dite_true, dite_false, Int.reduceEq, Int.reduceLT, Int.reduceLE]
    · have h30' : ((i : Int) = 30) = False := eq_false (by omega)
      simp only [n8, r8, g5, g6, g8, g9, g39, g40, g41, hlt, hld, hidx, h30', hCl, SB, Nat.reduceLT, callee, aOp, ne_eq, Nat.reduceEqDiff, aBin, aUn, if_true, if_false, reduceCtorEq, frame0, place, notTuple, Nat.reduceAdd, Nat.reduceLeDiff, resVal, dite_true, dite_false, Int.reduceEq, Int.reduceLT, Int.reduceLE]
      refine record_ok (by omega) (by simp; omega) fun G2 q cb b hC2 hF => ?_
      have hB2 : hget G2 G.length = .cells false [.int .u8 ((gt steps i).a.toNat : Int), .int .u8 ((gt steps i).b.toNat : Int), .int .u8 ((gt steps i).c.toNat : Int), .int .u64 (gt steps i).m] := hC2.cells (by rw [hget_new0]; rfl) (by simp)
      have hC12 : Chg [] G G2 := hC2.pre
      have I2 := I.to hC12 (by simp)
      obtain ⟨rest, hRb⟩ := I.mod.blkR
      have N : NewB (G ++ [Blk.cells false [.int .u8 ((gt steps i).a.toNat : Int), .int .u8 ((gt steps i).b.toNat : Int), .int .u8 ((gt steps i).c.toNat : Int), .int .u64 (gt steps i).m]]).length H D S s G2 q cb b := ⟨hF, by simp; omega, by have := hget_alive I.li.jl.d; simp; omega, by have := hget_alive I.li.s; simp; omega, by have := hget_alive I.li.jl.j; simp; omega, by have := hget_alive hRb; simp; omega, fun a ea => by have := (I.li.jl.own.block ea).2; simp; omega, fun k hk a ea => by have := I.rsz k hk a ea; simp; omega⟩
      refine Ret_pad ?_
      simp only [n8, r8, g5, g6, g8, g9, g39, g40, g41, SB, Nat.reduceLT, callee, aOp, ne_eq, Nat.reduceEqDiff, aBin, aUn, if_true, if_false, reduceCtorEq, frame0, place, notTuple, Nat.reduceAdd, Nat.reduceLeDiff, resVal, dite_true, dite_false, Int.reduceEq, Int.reduceLT, Int.reduceLE]
      rw [List.append_nil]
      refine Ret_pad ?_
      refine sw8 (p := p) (ns := steps.length) (c := c) (s := s) (n := n) (q := q) (cb := cb) (b := b) I2 (by omega) hn4 (by omega) ⟨(by simp only [g5, upd_same, upd_ne, ne_eq, Nat.reduceEqDiff, not_false_eq_true, frame0, List.getD_cons_zero, List.getD_cons_succ]), (by simp only [g6, upd_same, upd_ne, ne_eq, Nat.reduceEqDiff, not_false_eq_true, frame0, List.getD_cons_zero, List.getD_cons_succ]), (by simp only [g8, upd_same, upd_ne, ne_eq, Nat.reduceEqDiff, not_false_eq_true, frame0, List.getD_cons_zero, List.getD_cons_succ]), (by simp only [g9, upd_same, upd_ne, ne_eq, Nat.reduceEqDiff, not_false_eq_true, frame0, List.getD_cons_zero, List.getD_cons_succ]), (by simp only [g39, upd_same, upd_ne, ne_eq, Nat.reduceEqDiff, not_false_eq_true, frame0, List.getD_cons_zero, List.getD_cons_succ]), (by simp only [g40, upd_same, upd_ne, ne_eq, Nat.reduceEqDiff, not_false_eq_true, frame0, List.getD_cons_zero, List.getD_cons_succ]), (by simp only [g41, upd_same, upd_ne, ne_eq, Nat.reduceEqDiff, not_false_eq_true, frame0, List.getD_cons_zero, List.getD_cons_succ])⟩ N (by simp only [upd_same, upd_ne, ne_eq, Nat.reduceEqDiff, not_false_eq_true, frame0, List.getD_cons_zero, List.getD_cons_succ]) (by simp only [upd_same, upd_ne, ne_eq, Nat.reduceEqDiff, not_false_eq_true, frame0, List.getD_cons_zero, List.getD_cons_succ]) hB2 (Nat.le_refl _) hD hS fun s' fr' G3 I3 F3 => ?_
      have hlen3 := I3.len
      have hf3 := I3.fits
      have hnn3 := I3.nn
      have hp3 := I3.plen
      have hll3 := I3.llen
      have hCl3 := I3.chg.len
      refine fin8 I3.li (by omega) (by omega) I3.kd.a1 hCl3 I3.recs I3.mod.rr (by omega) I3.rlen F3.f5 F3.f8 fun fr4 G4 hC4 K4 => ?_
      have I4 := I3.to hC4 (by simp)
      have k39 := K4.k39.trans F3.f39
      have k40 := K4.k40.trans F3.f40
      have k41 := K4.k41.trans F3.f41
      simp only [n8, r8, k39, k40, k41, hw1, SB, Nat.reduceLT, callee, aOp, ne_eq, Nat.reduceEqDiff, aBin, aUn, if_true, if_false, reduceCtorEq, frame0, place, notTuple, Nat.reduceAdd, Nat.reduceLeDiff, resVal, dite_true, dite_false, Int.reduceEq, Int.reduceLT, Int.reduceLE]
      rw [List.append_nil]
      exact hN (i + 1, s') _ _ ⟨by show i + 1 ≤ _; omega, by show i + 1 ≤ 30; omega, I4, ⟨by rw [← F3.f5, ← K4.k5]; exact (by simp only [upd_same, upd_ne, ne_eq, Nat.reduceEqDiff, not_false_eq_true, frame0, List.getD_cons_zero, List.getD_cons_succ]), by rw [← F3.f6, ← K4.k6]; exact (by simp only [upd_same, upd_ne, ne_eq, Nat.reduceEqDiff, not_false_eq_true, frame0, List.getD_cons_zero, List.getD_cons_succ]), by rw [← F3.f8, ← K4.k8]; exact (by simp only [upd_same, upd_ne, ne_eq, Nat.reduceEqDiff, not_false_eq_true, frame0, List.getD_cons_zero, List.getD_cons_succ]), by rw [← F3.f9, ← K4.k9]; exact (by simp only [upd_same, upd_ne, ne_eq, Nat.reduceEqDiff, not_false_eq_true, frame0, List.getD_cons_zero, List.getD_cons_succ]), (by simp only [k39, upd_same, upd_ne, ne_eq, Nat.reduceEqDiff, not_false_eq_true, frame0, List.getD_cons_zero, List.getD_cons_succ]), (by simp only [k40, upd_same, upd_ne, ne_eq, Nat.reduceEqDiff, not_false_eq_true, frame0, List.getD_cons_zero, List.getD_cons_succ]), (by simp only [upd_same, upd_ne, ne_eq, Nat.reduceEqDiff, not_false_eq_true, frame0, List.getD_cons_zero, List.getD_cons_succ])⟩⟩ (by show _ - (i + 1) < _ - i; omega)
  · obtain rfl : i = steps.length := by omega
    simp only [n8, r8, g39, g40, g41, hlt, SB, Nat.reduceLT, callee, aOp, ne_eq, Nat.reduceEqDiff, aBin, aUn, if_true, if_false, reduceCtorEq, frame0, place, notTuple, Nat.reduceAdd, Nat.reduceLeDiff, resVal, dite_true, dite_false, Int.reduceEq, Int.reduceLT, Int.reduceLE]
end Go.Proofs.Ytdddehniepofmaa.Fn
namespace Go.Proofs.Ytdddehniepofmaa.Fn
open Go.AM Go.AM.Sym
set_option maxRecDepth 100000
set_option linter.unusedVariables false
set_option linter.unusedSimpArgs false
set_option maxHeartbeats 4000000

/-- A journal with its disk, to be read: its pending writes may have no room behind them. -/
structure RLies (lim : Nat) (H : Heap) (J D S area e lf n sc : Nat) (pp : Option Addr) (cp : Nat) (safe : List Sec) (pend : List Wr) : Prop where
  j : hget H J = .cells false [.pointer (some ⟨D, 0, none⟩), .int .i64 (area : Int), .int .i64 (e : Int), .int .i64 (lf : Int), .int .i64 (n : Int)]
  d : hget H D = .cells false [.slice (some ⟨S, 0, none⟩) safe.length sc, .slice pp pend.length cp]
  s : hget H S = .cells false (safe.flatMap encX)
  sl : Sl H encW 33 pp pend
  lJ : lim ≤ J
  lD : lim ≤ D
  lS : lim ≤ S
  JD : J ≠ D
  SD : S ≠ D
  SJ : S ≠ J
  ps : ∀ a, pp = some a → a.block ≠ S ∧ a.block ≠ D ∧ a.block ≠ J
  ne : safe ≠ []
section
variable {lim J D S area e lf n sc cp : Nat} {pp : Option Addr} {safe : List Sec} {pend : List Wr} {H : Heap} {Q : Value → Heap → Prop}
theorem Lies.r (h : Lies lim H J D S area e lf n sc pp cp safe pend) : RLies lim H J D S area e lf n sc pp cp safe pend :=
  ⟨h.jl.j, h.jl.d, h.s, h.jl.own.sl encW_len, h.jl.lJ, h.jl.lD, h.lS, h.jl.JD, h.SD, h.SJ, fun a ea => ⟨h.ps a ea, (h.jl.ap a ea).2, (h.jl.ap a ea).1⟩, h.ne⟩
theorem RLies.chg {H' : Heap} {L : List Nat} (h : RLies lim H J D S area e lf n sc pp cp safe pend) (hc : Chg L H H') (hL : ∀ j ∈ L, j ≠ J ∧ j ≠ D ∧ j ≠ S ∧ ∀ a, pp = some a → a.block ≠ j) : RLies lim H' J D S area e lf n sc pp cp safe pend := by
  have nin : ∀ j, (j = J ∨ j = D ∨ j = S) → j ∉ L := fun j h1 h2 => by have := hL j h2; omega
  exact ⟨hc.cells h.j (nin _ (by omega)), hc.cells h.d (nin _ (by omega)), hc.cells h.s (nin _ (by omega)), hc.sl h.sl fun a ea _ hh => (hL _ hh).2.2.2 a ea rfl, h.lJ, h.lD, h.lS, h.JD, h.SD, h.SJ, h.ps, h.ne⟩
theorem RoomR_ok {mp : Bool} {l2 : Nat} (h : RLies l2 H J D S area e lf n sc pp cp safe pend) (hn : safe.length < 2 ^ 30) (hn2 : n < 2 ^ 30) :
    CallR E mp lim 32 [.pointer (some ⟨J, 0, none⟩)] H Q = Q (.int .i64 ((safe.length / 2 - n : Nat) : Int)) H := by
  refine pc (by decide) e32 rfl rfl ?_
  rw [b32, c32]
  have hJX := fun X => (Ext.refl.app (X := X)).cells h.j
  have hDX := fun X => (Ext.refl.app (X := X)).cells h.d
  have hm := fun X (mp : Bool) (lim : Nat) (Q : Value → Heap → Prop) => missing_ok (mp := mp) (lim := lim) (Q := Q) (hJX X)
  have hs := fun X (mp : Bool) (lim : Nat) (Q : Value → Heap → Prop) => size_ok (mp := mp) (lim := lim) (Q := Q) (hDX X) (by omega)
  have hw : IntKind.i64.wrap (((safe.length / 2 : Nat) : Int) - (n : Int)) = ((safe.length / 2 : Nat) : Int) - (n : Int) := wrap_id (by omega) (by omega)
  simp only [n32, r32, hm, hs, hJX, hw, max0, SB, Nat.reduceLT, callee, aOp, ne_eq, Nat.reduceEqDiff, aBin, aUn, if_true, if_false, reduceCtorEq, frame0, place, notTuple, Nat.reduceAdd, Nat.reduceLeDiff, resVal, dite_true, dite_false, Int.reduceEq, Int.reduceLT, Int.reduceLE]
theorem CommitR_ok (h : RLies lim H J D S area e lf n sc pp cp safe pend) (hn : safe.length < 2 ^ 30) (hn2 : pend.length < 2 ^ 30)
    (hQ : ∀ H', Chg [S, D] H H' → Lies lim H' J D S area e lf n sc none 0 (crashed [] pend safe) [] → Q (.int .i64 0) H') :
    CallR E false lim 34 [.pointer (some ⟨J, 0, none⟩)] H Q := by
  refine runs (by decide) e34 rfl ?_
  rw [b34, c34]
  have hJX := fun X => (Ext.refl.app (X := X)).cells h.j
  have hm := fun X (mp : Bool) (lim : Nat) (Q : Value → Heap → Prop) => missing_ok (mp := mp) (lim := lim) (Q := Q) (hJX X)
  simp only [n34, r34, hm, hJX, SB, Nat.reduceLT, callee, aOp, ne_eq, Nat.reduceEqDiff, aBin, aUn, if_true, if_false, reduceCtorEq, frame0, place, notTuple, Nat.reduceAdd, Nat.reduceLeDiff, resVal, dite_true, dite_false, Int.reduceEq, Int.reduceLT, Int.reduceLE]
  rw [List.append_nil]
  refine Sync_ok h.d h.lD (fun _ => ⟨rfl, h.s, h.lS⟩) h.SD h.sl (fun a e _ => ⟨(h.ps a e).1, (h.ps a e).2.1⟩) (by omega) (by omega) fun H' hC hD' hS' => ?_
  refine Ret_pad ?_
  simp only [n34, r34, SB, Nat.reduceLT, callee, aOp, ne_eq, Nat.reduceEqDiff, aBin, aUn, if_true, if_false, reduceCtorEq, frame0, place, notTuple, Nat.reduceAdd, Nat.reduceLeDiff, resVal, dite_true, dite_false, Int.reduceEq, Int.reduceLT, Int.reduceLE]
  have hl : (crashed [] pend safe).length = safe.length := crashed_len
  rw [List.append_nil]
  refine hQ H' hC ⟨⟨hC.cells h.j (by simp [h.SJ.symm, h.JD]), by rw [hl]; exact hD', Own.nil, h.lJ, h.lD, h.JD, by intro a e; cases e⟩, hS' h.ne, h.lS, h.SD, h.SJ, (by intro a e; cases e), fun e => h.ne (by rw [← List.length_eq_zero_iff, ← hl, e]; rfl)⟩
theorem RecordsR_ok {l2 : Nat} (h : RLies l2 H J D S area e lf n sc pp cp safe pend) (hn : safe.length < 2 ^ 20) (hpe : pend.length < 2 ^ 30) (har : area ≤ 1) (hl : lim ≤ H.length)
    (hQ : ∀ G h0 q cq ds, Chg [] H G → H.length ≤ h0 → RowsAt h0 G q cq ds (recs (areaD pend safe area)).1 → Q (.slice q (recs (areaD pend safe area)).1.length cq) G) :
    CallR E false lim 33 [.pointer (some ⟨J, 0, none⟩)] H Q := by
  refine runs (by decide) e33 rfl ?_
  rw [b33, c33]
  have hJX := fun X => (Ext.refl.app (X := X)).cells h.j
  have hm := fun X (mp : Bool) (lim : Nat) (Q : Value → Heap → Prop) => missing_ok (mp := mp) (lim := lim) (Q := Q) (hJX X)
  simp only [n33, r33, hm, hJX, SB, Nat.reduceLT, callee, aOp, ne_eq, Nat.reduceEqDiff, aBin, aUn, if_true, if_false, reduceCtorEq, frame0, place, notTuple, Nat.reduceAdd, Nat.reduceLeDiff, resVal, dite_true, dite_false, Int.reduceEq, Int.reduceLT, Int.reduceLE]
  rw [List.append_nil]
  have hS : Sl H encX 32 (some ⟨S, 0, none⟩) safe := Sl.row encX_len h.s
  refine areas_ok h.d hS h.ne h.sl (by omega) (by omega) (by omega) fun H' p c q c' hC h0 h1 => ?_
  rw [← areaD_0] at h0
  rw [← areaD_1] at h1
  have hlen := hC.len
  refine Ret_pad ?_
  have hJ' := fun X => (Ext.refl.app (X := X)).cells (hC.cells h.j (by simp))
  have key : ∀ (p : Option Addr) (c : Nat) (Q' : Value → Heap → Prop), Sl H' encX 32 p (areaD pend safe area) → (∀ G q cq ds, Chg [] H' G → RowsAt H'.length G q cq ds (recs (areaD pend safe area)).1 → Q' (.tuple #[.slice q (recs (areaD pend safe area)).1.length cq, .int .i64 (epochOf (areaD pend safe area) : Int), .int .i64 ((recs (areaD pend safe area)).2 : Int)]) G) → CallR E false lim 46 [.slice p (safe.length / 2) c] H' Q' := fun p c Q' hs hq => records_ok hs (areaD_len har).symm (by rw [areaD_len har]; omega) (by omega) hq
  rcases (show area = 0 ∨ area = 1 by omega) with rfl | rfl
  · simp only [n33, r33, hJ', Int.cast_ofNat_Int, Int.toNat_zero, Int.toNat_one, Nat.mul_one, Nat.zero_mul, List.getElem?_cons_succ, SB, Nat.reduceLT, callee, aOp, ne_eq, Nat.reduceEqDiff, aBin, aUn, if_true, if_false, reduceCtorEq, frame0, place, notTuple, Nat.reduceAdd, Nat.reduceLeDiff, resVal, dite_true, dite_false, Int.reduceEq, Int.reduceLT, Int.reduceLE]
    rw [List.append_nil]
    refine key p c _ h0 fun G q cq ds k1 k2 => ?_
    refine Ret_pad ?_
    simp only [n33, r33, SB, Nat.reduceLT, callee, aOp, ne_eq, Nat.reduceEqDiff, aBin, aUn, if_true, if_false, reduceCtorEq, frame0, place, notTuple, Nat.reduceAdd, Nat.reduceLeDiff, resVal, dite_true, dite_false, Int.reduceEq, Int.reduceLT, Int.reduceLE]
    rw [List.append_nil]
    exact hQ G _ q cq ds (hC.trans' k1 fun j h _ => by simp at h) hlen k2
  · simp only [n33, r33, hJ', Int.cast_ofNat_Int, Int.toNat_zero, Int.toNat_one, Nat.mul_one, Nat.zero_mul, List.getElem?_cons_succ, SB, Nat.reduceLT, callee, aOp, ne_eq, Nat.reduceEqDiff, aBin, aUn, if_true, if_false, reduceCtorEq, frame0, place, notTuple, Nat.reduceAdd, Nat.reduceLeDiff, resVal, dite_true, dite_false, Int.reduceEq, Int.reduceLT, Int.reduceLE]
    rw [List.append_nil]
    refine key q c' _ h1 fun G q cq ds k1 k2 => ?_
    refine Ret_pad ?_
    simp only [n33, r33, SB, Nat.reduceLT, callee, aOp, ne_eq, Nat.reduceEqDiff, aBin, aUn, if_true, if_false, reduceCtorEq, frame0, place, notTuple, Nat.reduceAdd, Nat.reduceLeDiff, resVal, dite_true, dite_false, Int.reduceEq, Int.reduceLT, Int.reduceLE]
    rw [List.append_nil]
    exact hQ G _ q cq ds (hC.trans' k1 fun j h _ => by simp at h) hlen k2
end
/-- The pending writes without the room behind them. -/
theorem clipO_ok {lim cp h0 : Nat} {pp : Option Addr} {pend : List Wr} {H : Heap} {Q : Value → Heap → Prop} (hO : Own h0 H encW 33 pp cp pend) (hn : pend.length < 2 ^ 30) (hQ : ∀ c, Q (.slice pp pend.length c) H) : CallR E false lim 50 [.slice pp pend.length cp] H Q := by
  refine runs (by decide) e50 rfl ?_
  rw [b50, c50]
  have hs : ∃ c, sliceV 33 (.slice pp pend.length cp) none (some (.int .i64 (pend.length : Int))) (some (.int .i64 (pend.length : Int))) = some (.slice pp pend.length c) := by
    have hb : ∀ n, pend.length ≤ n → bounds unV pend.length n none (some (.const (.int .i64 (pend.length : Int)))) (some (.const (.int .i64 (pend.length : Int)))) = some (0, pend.length, pend.length) := fun n hn => by
      have := bv_011 (len := pend.length) (cap := n) (k1 := .i64) (k2 := .i64) (h := (pend.length : Int)) (x := (pend.length : Int)) (by omega) (by omega) (by omega)
      rw [Int.toNat_natCast] at this
      exact this
    unfold sliceV aSliceS
    simp only [Option.map_some, Option.map_none]
    rcases hO with ⟨h1, h2, h3⟩ | ⟨R, h1, h2, _, _⟩
    · subst h1 h2 h3
      exact ⟨0, rfl⟩
    · rw [if_pos h2, hb _ (Nat.le_refl _)]
      refine ⟨pend.length, ?_⟩
      rw [h1]
      simp only
      rw [if_pos (by omega)]
      congr 1
      simp only [Option.map_some, addr_add, Nat.zero_mul, Nat.add_zero, Nat.sub_zero, ite_self]
  obtain ⟨c, hs⟩ := hs
  simp only [n50, r50, hs, SB, Nat.reduceLT, callee, aOp, ne_eq, Nat.reduceEqDiff, aBin, aUn, if_true, if_false, reduceCtorEq, frame0, place, notTuple, Nat.reduceAdd, Nat.reduceLeDiff, resVal, dite_true, dite_false, Int.reduceEq, Int.reduceLT, Int.reduceLE]
  rw [List.append_nil]
  exact hQ c
theorem OpenP_ok {lim D S sc cp h0 : Nat} {pp : Option Addr} {safe : List Sec} {pend : List Wr} {H : Heap} {Q : Value → Heap → Prop} (hD : hget H D = .cells false [.slice (some ⟨S, 0, none⟩) safe.length sc, .slice pp pend.length cp]) (hS : hget H S = .cells false (safe.flatMap encX)) (hO : Own h0 H encW 33 pp cp pend) (hps : ∀ a, pp = some a → a.block ≠ S ∧ a.block ≠ D) (lD : lim ≤ D) (lS : lim ≤ S) (hSD : S ≠ D) (hn : 4 ≤ safe.length) (hn2 : safe.length ≤ 32768) (hpl : pend.length < 2 ^ 30) (hall : rightD safe.length pend = true)
    (hx : (opX (crashed [] pend safe)).1 = true) (hg2 : (opG (crashed [] pend safe)).2 < 1073741824)
    (hF : ∀ H' J cp', Chg [D] H H' → H.length ≤ J → RLies lim H' J D S (opX (crashed [] pend safe)).2.1 (opX (crashed [] pend safe)).2.2.1 ((opG (crashed [] pend safe)).2 + 1) (opX (crashed [] pend safe)).2.2.2 sc pp cp' safe pend → Q (.tuple #[.pointer (some ⟨J, 0, none⟩), .int .i64 0]) H') :
    CallR E false lim 35 [.pointer (some ⟨D, 0, none⟩)] H Q := by
  have hne : safe ≠ [] := fun e => by rw [e] at hn; simp at hn
  have hDl := hget_alive hD
  have hSl := hget_alive hS
  have sS : Sl H encX 32 (some ⟨S, 0, none⟩) safe := Sl.row encX_len hS
  have sP := hO.sl encW_len
  refine runs (by decide) e35 rfl ?_
  rw [b35, c35]
  have hDX := fun X => (Ext.refl.app (X := X)).cells hD
  have h48 := fun X (mp : Bool) (lim : Nat) (Q : Value → Heap → Prop) => right_ok (mp := mp) (lim := lim) (Q := Q) (pend := pend) (hDX X) (sP.app X) (by omega)
  rw [hall] at h48
  simp only [n35, r35, h48, aEq, Bool.not_true, SB, Nat.reduceLT, callee, aOp, ne_eq, Nat.reduceEqDiff, aBin, aUn, if_true, if_false, reduceCtorEq, frame0, place, notTuple, Nat.reduceAdd, Nat.reduceLeDiff, resVal, dite_true, dite_false, Int.reduceEq, Int.reduceLT, Int.reduceLE]
  rw [List.append_nil]
  refine areas_ok (safe := safe) (pend := pend) hD sS hne sP (by omega) (by omega) (by omega) fun H' p c q c' hC h0 h1 => ?_
  have hvl : (crashed [] pend safe).length = safe.length := crashed_len
  rw [← areaD_0, areaD_of, ← opA_of] at h0
  rw [← areaD_1, areaD_of, ← opB_of] at h1
  generalize crashed [] pend safe = V at *
  have lA : (opA V).length = safe.length / 2 := by rw [opA_of, areaOf_len (by omega), hvl]
  have lB : (opB V).length = safe.length / 2 := by rw [opB_of, areaOf_len (by omega), hvl]
  have hlen := hC.len
  refine Ret_pad ?_
  have h49 := fun X (mp : Bool) (lim : Nat) (Q : Value → Heap → Prop) => greatest_ok (mp := mp) (lim := lim) (Q := Q) (c := c) (c' := c') (h0.app X) (h1.app X) (by omega) (by omega)
  rw [lA, lB] at h49
  change ∀ X mp lim Q, CallR E mp lim 49 [.agg #[.slice p (safe.length / 2) c, .slice q (safe.length / 2) c']] (H' ++ X) Q = Q (.tuple #[.int .i64 ((opG V).1 : Int), .int .i64 ((opG V).2 : Int)]) (H' ++ X) at h49
  have w1 : IntKind.i64.wrap (((opG V).2 : Int) + 1) = (((opG V).2 + 1 : Nat) : Int) := wrap_nat (by omega)
  have c1 : ¬ (1073741824 : Int) < (((opG V).2 + 1 : Nat) : Int) := by omega
  have lh : lim ≤ H'.length := by omega
  simp only [n35, r35, h49, w1, c1, lh, SB, Nat.reduceLT, callee, aOp, ne_eq, Nat.reduceEqDiff, aBin, aUn, if_true, if_false, reduceCtorEq, frame0, place, notTuple, Nat.reduceAdd, Nat.reduceLeDiff, resVal, dite_true, dite_false, Int.reduceEq, Int.reduceLT, Int.reduceLE]
  refine inner35 (J := H'.length + 1) (D := D) (life := (opG V).2 + 1) (c := c) (c' := c') (h0.app _) (h1.app _) (by omega) (by omega) (fun a ea => ?_) (fun a ea => ?_) (by rw [hget_new]; rfl) (by omega) (by simp only [upd_same, upd_ne, ne_eq, Nat.reduceEqDiff, not_false_eq_true, frame0, List.getD_cons_zero, List.getD_cons_succ]) (by simp only [upd_same, upd_ne, ne_eq, Nat.reduceEqDiff, not_false_eq_true, frame0, List.getD_cons_zero, List.getD_cons_succ]) (by simp only [lA, lB, upd_same, upd_ne, ne_eq, Nat.reduceEqDiff, not_false_eq_true, frame0, List.getD_cons_zero, List.getD_cons_succ]) (by simp only [Int.cast_ofNat_Int, upd_same, upd_ne, ne_eq, Nat.reduceEqDiff, not_false_eq_true, frame0, List.getD_cons_zero, List.getD_cons_succ]) fun fr' G' k1 k2 k8 k7 k0 k5 => ?_
  · subst ea
    have := h0.lt fun e => by rw [e] at lA; simp at lA; omega
    omega
  · subst ea
    have := h1.lt fun e => by rw [e] at lB; simp at lB; omega
    omega
  have k7' : fr' 7 = .pointer (some ⟨H'.length + 1, 0, none⟩) := k7.trans (by simp only [upd_same, upd_ne, ne_eq, Nat.reduceEqDiff, not_false_eq_true, frame0, List.getD_cons_zero, List.getD_cons_succ])
  have k0' : fr' 0 = .pointer (some ⟨D, 0, none⟩) := k0.trans (by simp only [upd_same, upd_ne, ne_eq, Nat.reduceEqDiff, not_false_eq_true, frame0, List.getD_cons_zero, List.getD_cons_succ])
  change hget G' (H'.length + 1) = .cells false (jcell D ((opG V).2 + 1) (opX V)) at k2
  change fr' 8 = .bool (opX V).1 at k8
  have hCG : Chg [] H G' := hC.app.trans' k1 fun j h1 h2 => by simp only [List.mem_singleton] at h1; omega
  have hDG := hCG.cells hD (by simp)
  have hSG := hCG.cells hS (by simp)
  have hOG := hO.chg hCG (by simp)
  have lG := hCG.len
  have hJl := hget_alive k2
  generalize hJe : H'.length + 1 = J at k7' k2 k1 hJl
  have hJH : H.length ≤ J := by omega
  clear k7 k0 k5 hDX h48 h49
  rw [hx] at k8
  have hDGX := fun X => (Ext.refl.app (X := X)).cells hDG
  simp only [n35, r35, k7', k0', k8, hDGX, Bool.not_true, SB, Nat.reduceLT, callee, aOp, ne_eq, Nat.reduceEqDiff, aBin, aUn, if_true, if_false, reduceCtorEq, frame0, place, notTuple, Nat.reduceAdd, Nat.reduceLeDiff, resVal, dite_true, dite_false, Int.reduceEq, Int.reduceLT, Int.reduceLE]
  rw [List.append_nil]
  refine clipO_ok hOG (by omega) fun cc => ?_
  obtain ⟨G1, s1, g1, m1⟩ := mut_set (hget_alive hDG) (.cells false [.slice (some ⟨S, 0, none⟩) safe.length sc, .slice pp pend.length cc])
  refine Ret_pad ?_
  simp only [n35, r35, k7', k0', k8, hDGX, lD, s1, SB, Nat.reduceLT, callee, aOp, ne_eq, Nat.reduceEqDiff, aBin, aUn, if_true, if_false, reduceCtorEq, frame0, place, notTuple, Nat.reduceAdd, Nat.reduceLeDiff, resVal, dite_true, dite_false, Int.reduceEq, Int.reduceLT, Int.reduceLE]
  rw [List.append_nil]
  have hpl2 : ∀ a, pp = some a → a.block < H.length := fun a ea => (hO.block ea).2
  refine hF G1 J cc ((hCG.mono (by simp)).mut m1 (.inl (by simp))) hJH ⟨m1.cells k2 (by omega), g1, m1.cells hSG hSD, m1.sl (hOG.sl encW_len) fun a ea _ => (hps a ea).2, by omega, lD, lS, by omega, hSD, by omega, fun a ea => ⟨(hps a ea).1, (hps a ea).2, by have := hpl2 a ea; omega⟩, hne⟩
end Go.Proofs.Ytdddehniepofmaa.Fn
namespace Go.Proofs.Ytdddehniepofmaa.Fn
open Go.AM Go.AM.Sym
set_option maxRecDepth 100000
set_option linter.unusedVariables false
set_option linter.unusedSimpArgs false
set_option maxHeartbeats 4000000

/-- The state of a journal in use. -/
structure SJ where
  area : Nat
  e : Nat
  lf : Nat
  nn : Nat
  pp : Option Addr
  cp : Nat
  safe : List Sec
  pend : List Wr
  rl : LR
  bs : LR
structure KJ (lim n J D S : Nat) (H : Heap) (i : Nat) (s : SJ) (G : Heap) : Prop where
  li : Lies lim G J D S s.area s.e s.lf s.nn n s.pp s.cp s.safe s.pend
  kd : KD s.area s.e s.lf s.safe s.rl
  hb : ∀ x ∈ s.bs, x.1 = s.lf ∧ x.2.length < 2 ^ 20
  len : s.safe.length = n
  nn : s.nn = lsize s.rl + lsize s.bs
  fits : s.nn ≤ n / 2
  pend : s.pend = wrsOf (s.area * (n / 2)) s.e s.lf (lsize s.rl) (apcs s.bs)
  lf : s.lf ≤ i + 1
  e : s.e ≤ i + 1
  chg : Chg [] H G
  new : ∀ a, s.pp = some a → H.length ≤ a.block
  jn : H.length ≤ J
  dn : H.length ≤ D
  sn : H.length ≤ S
section
variable {lim n J D S i h cb : Nat} {H G : Heap} {s : SJ} {q : Option Addr} {b : List UInt8} {Q : Value → Heap → Prop}
theorem KJ.plen (I : KJ lim n J D S H i s G) : s.pend.length = lsize s.bs := by rw [I.pend, wrsOf_len, apcs_len]
theorem KJ.step {i' : Nat} (I : KJ lim n J D S H i s G) (h : i ≤ i') : KJ lim n J D S H i' s G :=
  ⟨I.li, I.kd, I.hb, I.len, I.nn, I.fits, I.pend, by have := I.lf; omega, by have := I.e; omega, I.chg, I.new, I.jn, I.dn, I.sn⟩
theorem KJ.to {G' : Heap} {B : List Nat} (I : KJ lim n J D S H i s G) (hc : Chg B G G') (hB : ∀ j ∈ B, H.length ≤ j ∧ j ≠ J ∧ j ≠ D ∧ j ≠ S ∧ ∀ a, s.pp = some a → a.block ≠ j) : KJ lim n J D S H i s G' :=
  ⟨Chg.lies I.li hc fun j hj => (hB j hj).2, I.kd, I.hb, I.len, I.nn, I.fits, I.pend, I.lf, I.e, I.chg.trans' hc fun j h1 h2 => absurd (hB j h1).1 (by omega), I.new, I.jn, I.dn, I.sn⟩
theorem KJ.sync (I : KJ lim n J D S H i s G) : KD s.area s.e s.lf (crashed [] s.pend s.safe) (s.rl ++ s.bs) := by
  have := I.kd.sync I.hb (by rw [← I.nn, I.len]; exact I.fits)
  rwa [I.len, ← I.pend] at this
theorem KJ.recs (I : KJ lim n J D S H i s G) : (recs (areaD s.pend s.safe s.area)).1 = (s.rl ++ s.bs).map (·.2) := by
  rw [areaD_of, I.sync.recs]
theorem KJ.lives (I : KJ lim n J D S H i s G) : J < G.length ∧ D < G.length ∧ S < G.length ∧ ∀ a, s.pp = some a → a.block < G.length :=
  ⟨hget_alive I.li.jl.j, hget_alive I.li.jl.d, hget_alive I.li.s, fun a ea => (I.li.jl.own.block ea).2⟩
theorem fresh_ap {L : List Nat} (hF : Fresh h G q cb b) (hav : ∀ j ∈ L, j < h) : ∀ a, q = some a → a.block ∉ L := fun a ea hh => by
  have := (hF.own.block ea).1
  have := hav _ hh
  omega
theorem KJ.append (I : KJ lim n J D S H i s G) (hn : n < 2 ^ 19) (hi : i < 1000) (hF : Fresh h G q cb b) (hav : ∀ j ∈ J :: D :: S :: blk s.pp, j < h)
    (h4 : Q (.int .i64 4) G)
    (h0 : ∀ s' G', KJ lim n J D S H (i + 1) s' G' → s'.rl = s.rl → s'.bs = s.bs ++ [(s.lf, b)] → s'.lf = s.lf → Chg (J :: D :: blk s.pp) G G' → (∀ a, s'.pp = some a → a.block ∈ blk s.pp ∨ G.length ≤ a.block) → Q (.int .i64 0) G') :
    CallR E false lim 31 [.pointer (some ⟨J, 0, none⟩), .slice q b.length cb] G Q := by
  have hf := I.fits
  have hnn := I.nn
  have hpl := I.plen
  have hlen := I.len
  have hb60 := hF.len
  have hnd := needN_le b.length
  have a1 := I.kd.a1
  have hap := fresh_ap hF hav
  refine Append_ok I.li (hF.own.sl encb_len) hF.own.capOk hF.nil (fun a ea _ => by
    have := hap a ea
    simp only [List.mem_cons, not_or] at this
    exact ⟨this.1, this.2.1, this.2.2.2⟩) (by omega) (by omega) (by omega) (by omega) a1 (fun hr => h4) fun G3 pp3 cp3 hr hC3 hn3 hli3 => ?_
  rw [hlen] at hr hli3
  refine h0 ⟨s.area, s.e, s.lf, s.nn + needN b.length, pp3, cp3, s.safe, s.pend ++ wrsOf (s.area * (n / 2)) s.e s.lf s.nn (pcs b), s.rl, s.bs ++ [(s.lf, b)]⟩ G3 ⟨hli3, I.kd, ?_, hlen, ?_, ?_, ?_, by have := I.lf; show s.lf ≤ _; omega, by have := I.e; show s.e ≤ _; omega, ?_, ?_, I.jn, I.dn, I.sn⟩ rfl rfl rfl hC3 (fun a ea => by
    by_cases hm : a.block ∈ blk s.pp
    · exact .inl hm
    · exact .inr (hn3 a ea hm))
  · intro x hx
    rcases List.mem_append.1 hx with hx | hx
    · exact I.hb x hx
    · simp only [List.mem_singleton] at hx
      subst hx
      exact ⟨rfl, by show b.length < _; omega⟩
  · show s.nn + needN b.length = lsize s.rl + lsize (s.bs ++ [(s.lf, b)])
    rw [lsize_append, hnn]
    simp only [lsize]; omega
  · show s.nn + needN b.length ≤ n / 2
    omega
  · show s.pend ++ _ = wrsOf _ _ _ _ (apcs (s.bs ++ [(s.lf, b)]))
    rw [apcs_snoc, wrsOf_append, apcs_len, ← hnn, I.pend]
  · refine I.chg.trans' hC3 fun j h1 h2 => ?_
    have := I.jn
    have := I.dn
    simp only [List.mem_cons] at h1
    rcases h1 with h1 | h1 | h1
    · omega
    · omega
    · obtain ⟨a', e1, e2⟩ := blk_mem.1 h1
      have := I.new a' e1
      omega
  · intro a ea
    by_cases hm : a.block ∈ blk s.pp
    · obtain ⟨a2, e3, e4⟩ := blk_mem.1 hm
      have := I.new a2 e3
      omega
    · have := hn3 a ea hm
      have := I.chg.len
      omega
theorem KJ.commit (I : KJ lim n J D S H i s G) (hn : n < 2 ^ 19)
    (h0 : ∀ s' G', KJ lim n J D S H i s' G' → s'.rl = s.rl ++ s.bs → s'.bs = [] → s'.pp = none → s'.pend = [] → s'.safe = crashed [] s.pend s.safe → s'.lf = s.lf → Chg [S, D] G G' → Q (.int .i64 0) G') :
    CallR E false lim 34 [.pointer (some ⟨J, 0, none⟩)] G Q := by
  have hf := I.fits
  have hnn := I.nn
  have hpl := I.plen
  have hlen := I.len
  refine Commit_ok I.li (by omega) (by omega) fun H' hC hli => ?_
  refine h0 ⟨s.area, s.e, s.lf, s.nn, none, 0, crashed [] s.pend s.safe, [], s.rl ++ s.bs, []⟩ H' ⟨hli, I.sync, by simp, by rw [crashed_len]; exact hlen, by rw [lsize_append]; exact hnn, hf, rfl, I.lf, I.e, I.chg.trans' hC (fun j h1 h2 => by
    have := I.dn
    have := I.sn
    simp only [List.mem_cons, List.not_mem_nil, or_false] at h1; omega), (by intro a ea; cases ea), I.jn, I.dn, I.sn⟩ rfl rfl rfl rfl rfl rfl hC
theorem KJ.check (I : KJ lim n J D S H i s G) (hn : n < 2 ^ 19) (hi : i < 1000) (hF : Fresh h G q cb b) (hav : ∀ j ∈ J :: D :: S :: blk s.pp, j < h)
    (h4 : Q (.int .i64 4) G)
    (h0 : ∀ s' G', KJ lim n J D S H (i + 1) s' G' → needN b.length ≤ n / 2 → s' = ⟨1 - s.area, s.e + 1, s.lf, needN b.length, none, 0, crashed [] (s.pend ++ wrsOf ((1 - s.area) * (n / 2)) (s.e + 1) s.lf 0 (pcs b)) s.safe, [], [(s.lf, b)], []⟩ → Chg (S :: J :: D :: blk s.pp) G G' → Q (.int .i64 0) G') :
    CallR E false lim 30 [.pointer (some ⟨J, 0, none⟩), .slice q b.length cb] G Q := by
  have hf := I.fits
  have hnn := I.nn
  have hpl := I.plen
  have hlen := I.len
  have hb60 := hF.len
  have hnd := needN_le b.length
  have a1 := I.kd.a1
  have he := I.e
  have hap := fresh_ap hF hav
  refine Checkpoint_ok I.li (hF.own.sl encb_len) hF.own.capOk hF.nil (fun a ea _ => by
    have := hap a ea
    simp only [List.mem_cons, not_or] at this
    exact ⟨this.1, this.2.1, this.2.2.2⟩) (by omega) (by omega) (by omega) (by omega) a1 (fun hr => h4) fun G3 hr hC3 hli3 => ?_
  rw [hlen] at hr hli3
  have hkd := I.kd.check (b := b) (by omega) I.hb (by rw [← hnn, hlen]; exact hf) (by rw [hlen]; exact hr) (by omega)
  rw [hlen, ← I.pend] at hkd
  refine h0 ⟨1 - s.area, s.e + 1, s.lf, needN b.length, none, 0, crashed [] (s.pend ++ wrsOf ((1 - s.area) * (n / 2)) (s.e + 1) s.lf 0 (pcs b)) s.safe, [], [(s.lf, b)], []⟩ G3 ⟨hli3, hkd, by simp, by rw [crashed_len]; exact hlen, rfl, hr, rfl, by have := I.lf; show s.lf ≤ _; omega, by show s.e + 1 ≤ _; omega, ?_, (by intro a ea; cases ea), I.jn, I.dn, I.sn⟩ hr rfl hC3
  refine I.chg.trans' hC3 fun j h1 h2 => ?_
  have := I.jn
  have := I.dn
  have := I.sn
  simp only [List.mem_cons] at h1
  rcases h1 with h1 | h1 | h1 | h1
  · omega
  · omega
  · omega
  · obtain ⟨a', e1, e2⟩ := blk_mem.1 h1
    have := I.new a' e1
    omega
/-- The pending writes are within the disk. -/
theorem KJ.right (I : KJ lim n J D S H i s G) (hn : 4 ≤ n) (hn2 : n ≤ 32768) : rightD s.safe.length s.pend = true := by
  have hf := I.fits
  have hnn := I.nn
  have a1 := I.kd.a1
  have key : ∀ (r : List (Nat × List UInt8)) (k : Nat), s.area * (n / 2) + k + r.length ≤ n → (wrsOf (s.area * (n / 2)) s.e s.lf k r).all (fun w => hasA n w.pos) = true := by
    intro r
    induction r with
    | nil => intro k _; rfl
    | cons x r ih =>
      intro k hk
      simp only [List.length_cons] at hk
      rw [wrsOf, List.all_cons, ih (k + 1) (by omega), Bool.and_true]
      unfold hasA
      rw [decide_eq_true_eq]
      show 0 ≤ ((s.area * (n / 2) + k : Nat) : Int) ∧ ((s.area * (n / 2) + k : Nat) : Int) < (n : Int)
      omega
  unfold rightD
  rw [I.len, I.pend, key _ _ (by rw [apcs_len]; rcases (show s.area = 0 ∨ s.area = 1 by omega) with h | h <;> rw [h] <;> omega), Bool.and_true, decide_eq_true_eq]
  omega
theorem KJ.begun (hn4 : 4 ≤ n) (hn : n < 2 ^ 15) (hC0 : Chg [] H G) (hJ : H.length ≤ J) (hD : H.length ≤ D) (hS : H.length ≤ S) (hL : Lies lim G J D S 0 1 1 1 n none 0 (safe0 n) []) : KJ lim n J D S H 0 ⟨0, 1, 1, 1, none, 0, safe0 n, [], [(1, [])], []⟩ G :=
  ⟨hL, KD.begun n hn4 (by omega), by simp, safe0_len n, rfl, by show 1 ≤ n / 2; omega, rfl, Nat.le_refl _, Nat.le_refl _, hC0, (by intro a ea; cases ea), hJ, hD, hS⟩
end
end Go.Proofs.Ytdddehniepofmaa.Fn
namespace Go.Proofs.Ytdddehniepofmaa.Fn
open Go.AM Go.AM.Sym
set_option maxRecDepth 100000
set_option linter.unusedVariables false
set_option linter.unusedSimpArgs false
set_option maxHeartbeats 4000000

/-- No marked sector has a greater life. -/
def LifeIn (S : List Sec) (lf : Nat) : Prop := ∀ j, j < S.length → sMarked (gt S j) j = true → get4 (gt S j) 4 ≤ lf
/-- A disk that is opened: an area with records, and another one that is not taken for it. -/
structure KX (area e lf : Nat) (safe : List Sec) (rl : LR) : Prop where
  lay : ∃ T, areaOf safe area = lsecs e 0 rl ++ T ∧ noRec e (lsize rl) T false (lastL 0 rl) = true
  up : upL lf 0 rl
  short : ∀ x ∈ rl, x.2.length < 2 ^ 20
  ne : rl ≠ []
  cur : LifeIn (areaOf safe area) lf
  oth : LifeIn (areaOf safe (1 - area)) lf
  othE : 0 < (recs (areaOf safe (1 - area))).1.length → epochOf (areaOf safe (1 - area)) < e
  e1 : 1 ≤ e
  e2 : e ≤ 1073741824
  l2 : lf ≤ 1073741824
  a1 : area ≤ 1
  sz : safe.length < 2 ^ 20
theorem lay_recs {e lf : Nat} {S : List Sec} {rl : LR} (hlay : ∃ T, S = lsecs e 0 rl ++ T ∧ noRec e (lsize rl) T false (lastL 0 rl) = true) (up : upL lf 0 rl) (short : ∀ x ∈ rl, x.2.length < 2 ^ 20) (ne : rl ≠ []) (e1 : 1 ≤ e) (e2 : e ≤ 1073741824) (l2 : lf ≤ 1073741824) (hS : S.length < 2 ^ 30) : recs S = (rl.map (·.2), lsize rl) ∧ epochOf S = e := by
  obtain ⟨T, k1, k2⟩ := hlay
  have he : epochOf S = e := by
    rw [k1]
    match rl, ne, up, short with
    | x :: r, _, hu, hx =>
      rw [lsecs]
      unfold pcs
      rw [pcsGo]
      split
      · rename_i h18
        exact mkSec_get0 h18 (by omega)
      · rw [dsec]
        exact mkSec_get0 (by show (x.2.take 18).length ≤ 18; rw [List.length_take]; omega) (by omega)
  refine ⟨?_, he⟩
  have hl : lsize rl ≤ S.length := by rw [k1, List.length_append, lsecs_len]; omega
  unfold recs
  rw [he]
  have := lsecs_scan (e := e) (b := lf) e1 e2 l2 rl 0 0 [] T (by omega) short up
  rw [k1, this, Nat.zero_add, List.nil_append]
  exact recGo_noRec _ _ _ _ _ _ _ k2
theorem KX.opened {area e lf : Nat} {safe : List Sec} {rl : LR} (h : KX area e lf safe rl) : opX safe = (true, area, e, lsize rl) ∧ (opG safe).2 ≤ lf ∧ (recs (areaOf safe area)).1 = rl.map (·.2) := by
  have a1 := h.a1
  have hsz := h.sz
  have hlA := areaOf_len (safe := safe) a1
  obtain ⟨r1, r2⟩ := lay_recs h.lay h.up h.short h.ne h.e1 h.e2 h.l2 (by omega)
  have hle : ∀ a, a ≤ 1 → ∀ j, j < (areaOf safe a).length → sMarked (gt (areaOf safe a) j) (0 + j) = true → get4 (gt (areaOf safe a) j) 4 ≤ lf := fun a ha j hj hm => by
    rw [Nat.zero_add] at hm
    rcases (show a = area ∨ a = 1 - area by omega) with rfl | rfl
    · exact h.cur j hj hm
    · exact h.oth j hj hm
  have hg : (opG safe).2 ≤ lf := by
    unfold opG
    rw [opA_of, opB_of]
    exact grGo_le _ _ _ (grGo_le _ _ _ (Nat.zero_le _) (hle 0 (by omega))) (hle 1 (by omega))
  have hpos : 0 < (recs (areaOf safe area)).1.length := by
    rw [r1]
    have := List.length_pos_iff.2 h.ne
    simpa using this
  have hoe := h.othE
  refine ⟨?_, hg, by rw [r1]⟩
  unfold opX
  rw [opA_of, opB_of]
  rcases (show area = 0 ∨ area = 1 by omega) with rfl | rfl
  · rw [opStep_take hpos (.inl rfl), opStep_leave, r1, r2]
    intro hr
    refine ⟨rfl, ?_⟩
    have := hoe hr
    rw [r2]
    simp only [Nat.sub_zero] at this ⊢
    omega
  · rw [opStep_take (a := areaOf safe 1) hpos, r1, r2]
    by_cases hr : 0 < (recs (areaOf safe 0)).1.length
    · rw [opStep_take hr (.inl rfl), r2]
      exact .inr (hoe hr)
    · rw [opStep_leave fun h => absurd h hr]
      exact .inl rfl
/-- The sectors among the first k that are not the same. -/
def dif (C V : List Sec) : Nat → List Wr
  | 0 => []
  | k + 1 => dif C V k ++ if gt C k = gt V k then [] else [⟨((k : Nat) : Int), gt C k⟩]
theorem crashGo_append {lost : List Bool} {b : List Wr} : ∀ (a : List Wr) (i : Nat) (s : List Sec), crashGo lost i (a ++ b) s = crashGo lost (i + a.length) b (crashGo lost i a s)
  | [], i, s => rfl
  | w :: a, i, s => by
    rw [List.cons_append, crashGo, crashGo, crashGo_append a, List.length_cons]
    congr 1; omega
theorem dif_crash {lost : List Bool} {C V Y : List Sec} {i : Nat} : ∀ (k : Nat), k ≤ Y.length → ∀ j, ((crashGo lost i (dif C V k) Y)[j]? = Y[j]? ∨ (j < k ∧ gt C j ≠ gt V j ∧ (crashGo lost i (dif C V k) Y)[j]? = some (gt C j))) ∧ (lost = [] → j < k → gt C j ≠ gt V j → (crashGo lost i (dif C V k) Y)[j]? = some (gt C j))
  | 0, _, j => ⟨.inl rfl, fun _ h => by omega⟩
  | k + 1, hk, j => by
    obtain ⟨h1, h2⟩ := dif_crash (lost := lost) (C := C) (V := V) (Y := Y) (i := i) k (by omega) j
    rw [dif, crashGo_append]
    generalize hZ : crashGo lost i (dif C V k) Y = Z at h1 h2
    have hZl : Z.length = Y.length := by rw [← hZ, crashGo_len]
    split
    · rename_i he
      refine ⟨?_, fun hl hj hne => ?_⟩
      · rcases h1 with h1 | ⟨h1, h3, h4⟩
        · exact .inl h1
        · exact .inr ⟨by omega, h3, h4⟩
      · rcases Nat.lt_or_ge j k with hj' | hj'
        · exact h2 hl hj' hne
        · have : j = k := by omega
          subst this; exact absurd he hne
    · rename_i he
      rw [crashGo, crashGo]
      have hh : hasA Z.length ((k : Nat) : Int) = true := by unfold hasA; rw [decide_eq_true_eq]; omega
      simp only [hh, Bool.true_and, Int.toNat_natCast]
      by_cases hj : j = k
      · subst hj
        cases hl : lost.getD (i + (dif C V j).length) false with
        | true =>
          refine ⟨.inl ?_, fun hn => by rw [hn] at hl; simp at hl⟩
          rcases h1 with h1 | ⟨h1, _⟩
          · simpa using h1
          · omega
        | false =>
          have hs : (Z.set j (gt C j))[j]? = some (gt C j) := List.getElem?_set_self (by omega)
          exact ⟨.inr ⟨by omega, he, by simpa using hs⟩, fun _ _ _ => by simpa using hs⟩
      · have hs : (if (!lost.getD (i + (dif C V k).length) false) = true then Z.set k (gt C k) else Z)[j]? = Z[j]? := by
          split
          · exact List.getElem?_set_ne (by omega)
          · rfl
        rw [hs]
        refine ⟨?_, fun hl hj' hne => h2 hl (by omega) hne⟩
        rcases h1 with h1 | ⟨h1, h3, h4⟩
        · exact .inl h1
        · exact .inr ⟨by omega, h3, h4⟩
theorem gt_of {l : List Sec} {j : Nat} (h : j < l.length) : l[j]? = some (gt l j) := by rw [List.getElem?_eq_getElem h, gt_lt h]
/-- With no write lost the disk is as it was. -/
theorem dif_full {C V : List Sec} (h : C.length = V.length) : crashed [] (dif C V V.length) V = C := by
  apply List.ext_getElem?
  intro j
  obtain ⟨h1, h2⟩ := dif_crash (lost := []) (C := C) (V := V) (Y := V) (i := 0) V.length (Nat.le_refl _) j
  unfold crashed
  by_cases hj : j < V.length
  · by_cases he : gt C j = gt V j
    · rcases h1 with h1 | ⟨_, h3, _⟩
      · rw [h1, gt_of hj, gt_of (by omega), he]
      · exact absurd he h3
    · rw [h2 rfl hj he, gt_of (by omega)]
  · rw [List.getElem?_eq_none (by rw [crashGo_len]; omega), List.getElem?_eq_none (by omega)]
theorem mix_first {A B : List Sec} : ∀ (n : Nat), (∀ j, j < n → gt A j = gt B j) ∨ ∃ q, q < n ∧ (∀ j, j < q → gt A j = gt B j) ∧ gt A q ≠ gt B q
  | 0 => .inl fun j h => by omega
  | n + 1 => by
    rcases mix_first (A := A) (B := B) n with h | ⟨q, h1, h2, h3⟩
    · by_cases he : gt A n = gt B n
      · refine .inl fun j hj => ?_
        rcases Nat.lt_or_ge j n with h1 | h1
        · exact h j h1
        · rw [show j = n by omega]; exact he
      · exact .inr ⟨n, by omega, h, he⟩
    · exact .inr ⟨q, by omega, h2, h3⟩
theorem list_gt {l l' : List Sec} (hl : l.length = l'.length) (h : ∀ j, j < l.length → gt l j = gt l' j) : l = l' := gt_ext hl h
/-- An area in which some sectors of a record, but not all, are written over older ones: there is no such record. -/
theorem part_area {e lf : Nat} {b : List UInt8} {Z O : List Sec} (e1 : 1 ≤ e) (e2 : e + 1 ≤ 1073741824) (l1 : 1 ≤ lf) (l2 : lf ≤ 1073741824) (hb : b.length < 2 ^ 20) (hO : MarkedIn O e lf) (hZ : Z.length = O.length) (hn : needN b.length ≤ O.length)
    (hmix : ∀ j, j < O.length → gt Z j = gt O j ∨ (j < needN b.length ∧ gt Z j = gt (dsec (e + 1) lf 0 (pcs b)) j)) :
    (∀ j, j < needN b.length → gt Z j = gt (dsec (e + 1) lf 0 (pcs b)) j) ∨ (0 < (recs Z).1.length → epochOf Z < e) := by
  have hd : (dsec (e + 1) lf 0 (pcs b)).length = needN b.length := by rw [dsec_len, pcs_need]
  rcases mix_first (A := Z) (B := dsec (e + 1) lf 0 (pcs b)) (needN b.length) with h | ⟨q, q1, q2, q3⟩
  · exact .inl h
  · refine .inr fun hr => ?_
    have hZq : gt Z q = gt O q := by
      rcases hmix q (by omega) with h | ⟨_, h⟩
      · exact h
      · exact absurd h q3
    by_cases h0 : q = 0
    · subst h0
      match Z, hZ, hr, hZq with
      | [], _, hr, _ => simp [recs, recGo] at hr
      | s :: r, hZ, hr, hZq =>
        rw [gt_cons_zero] at hZq
        unfold recs at hr
        rw [recGo] at hr
        split at hr
        · rename_i hg
          simp only [goesOn, Bool.and_eq_true, decide_eq_true_eq] at hg
          have := hO 0 (by omega) (by rw [← hZq]; exact hg.1.1.1.1)
          rw [← hZq] at this
          exact this.1
        · simp at hr
    · -- the first sectors are new, one is not
      exfalso
      have hcut : Z = (dsec (e + 1) lf 0 (pcs b)).take q ++ gt Z q :: Z.drop (q + 1) := by
        rw [gt_lt (by omega), ← List.drop_eq_getElem_cons (by omega)]
        refine (List.take_append_drop q Z).symm.trans ?_
        congr 1
        apply list_gt
        · rw [List.length_take, List.length_take]; omega
        · intro j hj
          rw [List.length_take] at hj
          have e1 : gt (Z.take q) j = gt Z j := by unfold gt; rw [List.getD_eq_getElem?_getD, List.getD_eq_getElem?_getD, List.getElem?_take, if_pos (by omega)]
          have e2 : gt ((dsec (e + 1) lf 0 (pcs b)).take q) j = gt (dsec (e + 1) lf 0 (pcs b)) j := by unfold gt; rw [List.getD_eq_getElem?_getD, List.getD_eq_getElem?_getD, List.getElem?_take, if_pos (by omega)]
          rw [e1, e2]
          exact q2 j (by omega)
      have hst : staleS (e + 1) lf (0 + q) (gt Z q) := fun hm he => by
        rw [Nat.zero_add] at hm
        rw [hZq] at hm he
        have := hO q (by omega) hm
        omega
      have hp : (pcsGo (b.length + 1) 1 b).length = needN b.length := pcs_need b
      have hpart := part_scan (e := e + 1) (lf := lf) (by omega) e2 l1 l2 (b.length + 1) 1 b 0 0 q (gt Z q) (Z.drop (q + 1)) (Nat.lt_succ_self _) (Nat.le_refl _) (by omega) (by omega) (by intro h; cases h) (by omega) (by omega) hst
      have hep : epochOf Z = e + 1 := by
        rw [hcut]
        have : 0 < (dsec (e + 1) lf 0 (pcs b)).length := by omega
        match hdd : dsec (e + 1) lf 0 (pcs b), this with
        | s :: r, _ =>
          match q, h0 with
          | q + 1, _ =>
            show get4 s 0 = e + 1
            exact (lsecs_mark (e := e + 1) (lf := lf) e2 l2 (b.length + 1) 1 b 0 (Nat.le_refl _) s (by
              have : s ∈ dsec (e + 1) lf 0 (pcs b) := by rw [hdd]; simp
              exact this)).1
      unfold recs at hr
      rw [hep] at hr
      have hpart' : noRec (e + 1) 0 Z false 0 = true := by
        rw [hcut]
        exact hpart
      rw [recGo_noRec _ _ _ _ _ _ _ hpart'] at hr
      simp at hr
end Go.Proofs.Ytdddehniepofmaa.Fn
namespace Go.Proofs.Ytdddehniepofmaa.Fn
open Go.AM Go.AM.Sym
set_option maxRecDepth 100000
set_option linter.unusedVariables false
set_option linter.unusedSimpArgs false
set_option maxHeartbeats 4000000

theorem areaOf_gt {S : List Sec} {a j : Nat} (hj : j < S.length / 2) : gt (areaOf S a) j = gt S (a * (S.length / 2) + j) := by
  unfold gt
  rw [List.getD_eq_getElem?_getD, List.getD_eq_getElem?_getD, areaOf_get hj]
theorem MarkedIn.life {S : List Sec} {e lf : Nat} (h : MarkedIn S e lf) : LifeIn S lf := fun j hj hm => (h j hj hm).2
theorem snap_crash {area e lf : Nat} {safe : List Sec} {rl bs : LR} {b : List UInt8} {lost : List Bool} (h : KD area e lf safe rl) (he : e < 1073741824) (hb : ∀ x ∈ bs, x.1 = lf ∧ x.2.length < 2 ^ 20) (hm : lsize rl + lsize bs ≤ safe.length / 2) (hn : needN b.length ≤ safe.length / 2) (hbl : b.length < 2 ^ 20) {P : List Wr} (hP : P = wrsOf (area * (safe.length / 2)) e lf (lsize rl) (apcs bs)) {C V : List Sec} (hV : V = crashed [] P safe) (hC : C = crashed [] (P ++ wrsOf ((1 - area) * (safe.length / 2)) (e + 1) lf 0 (pcs b)) safe) :
    (∃ k, k ≤ bs.length ∧ KX area e lf (crashed lost (P ++ dif C V safe.length) safe) (rl ++ bs.take k)) ∨ KX (1 - area) (e + 1) lf (crashed lost (P ++ dif C V safe.length) safe) [(lf, b)] := by
  have a1 := h.a1
  have hsz := h.sz
  have l1 := h.l1
  have l2 := h.l2
  have e1 := h.e1
  have e2 := h.e2
  have hs := h.sync hb hm
  obtain ⟨k, hk, hY, _⟩ := h.crash (lost := lost) hb hm
  have hYo := crash_other (lost := lost) (e := e) (lf := lf) (m := lsize rl) (r := apcs bs) (safe := safe) a1 (by rw [apcs_len]; exact hm)
  have hVo := crash_other (lost := []) (e := e) (lf := lf) (m := lsize rl) (r := apcs bs) (safe := safe) a1 (by rw [apcs_len]; exact hm)
  rw [← hP] at hs hY hYo hVo
  have hX : crashed lost (P ++ dif C V safe.length) safe = crashGo lost P.length (dif C V safe.length) (crashed lost P safe) := by
    unfold crashed
    rw [crashGo_append, Nat.zero_add]
  rw [crashed_append, ← hV] at hC
  rw [← hV] at hs hVo
  have hVl : V.length = safe.length := by rw [hV, crashed_len]
  have hYl : (crashed lost P safe).length = safe.length := crashed_len
  rw [hX]
  generalize crashed lost P safe = Y at hY hYo hYl ⊢
  rw [← hVl] at hC hn ⊢
  have hCl : C.length = V.length := by rw [hC, crashed_len]
  have hXl : (crashGo lost P.length (dif C V V.length) Y).length = V.length := by rw [crashGo_len, hYl, hVl]
  have hdc := fun j => (dif_crash (lost := lost) (C := C) (V := V) (Y := Y) (i := P.length) V.length (by omega) j).1
  generalize crashGo lost P.length (dif C V V.length) Y = X at hXl hdc ⊢
  -- the areas of the disk with the checkpoint
  have hCa := crash_area (lost := []) (e := e + 1) (lf := lf) (m := 0) (r := pcs b) (safe := V) (area := 1 - area) (by omega) (by rw [pcs_need]; omega)
  have hCo := crash_other (lost := []) (e := e + 1) (lf := lf) (m := 0) (r := pcs b) (safe := V) (area := 1 - area) (by omega) (by rw [pcs_need]; omega)
  rw [← hC, List.take_zero, List.drop_zero, List.nil_append] at hCa
  rw [← hC, show 1 - (1 - area) = area by omega] at hCo
  have hd : (dsec (e + 1) lf 0 (pcs b)).length = needN b.length := by rw [dsec_len, pcs_need]
  have lA : ∀ a, a ≤ 1 → (areaOf X a).length = V.length / 2 := fun a ha => by rw [areaOf_len ha, hXl]
  have lO : (areaOf V (1 - area)).length = V.length / 2 := areaOf_len (by omega)
  -- where the disk is as it was, or new
  have gX : ∀ a, a ≤ 1 → ∀ j, j < V.length / 2 → gt (areaOf X a) j = gt (areaOf Y a) j ∨ (gt (areaOf C a) j ≠ gt (areaOf V a) j ∧ gt (areaOf X a) j = gt (areaOf C a) j) := fun a ha j hj => by
    have hin : a * (V.length / 2) + j < V.length := by
      rcases (show a = 0 ∨ a = 1 by omega) with rfl | rfl <;> omega
    rw [areaOf_gt (S := X) (by omega), areaOf_gt (S := Y) (by omega), areaOf_gt (S := C) (by omega), areaOf_gt (S := V) hj, hXl, hYl, hCl, ← hVl]
    have := hdc (a * (V.length / 2) + j)
    rw [gt_of (by omega), gt_of (by omega)] at this
    rcases this with h1 | ⟨h1, h2, h3⟩
    · exact .inl (Option.some.inj h1)
    · exact .inr ⟨h2, Option.some.inj h3⟩
  have hXa : areaOf X area = areaOf Y area := by
    apply list_gt
    · rw [lA _ a1, areaOf_len a1]; omega
    · intro j hj
      rw [lA _ a1] at hj
      rcases gX area a1 j hj with h1 | ⟨h1, _⟩
      · exact h1
      · rw [hCo] at h1; exact absurd rfl h1
  have hmix : ∀ j, j < (areaOf V (1 - area)).length → gt (areaOf X (1 - area)) j = gt (areaOf V (1 - area)) j ∨ (j < needN b.length ∧ gt (areaOf X (1 - area)) j = gt (dsec (e + 1) lf 0 (pcs b)) j) := fun j hj => by
    rw [lO] at hj
    rcases gX (1 - area) (by omega) j hj with h1 | ⟨h1, h2⟩
    · refine .inl ?_
      rw [h1, hYo, hVo]
    · refine .inr ?_
      have hov := ov_get (lost := []) (dsec (e + 1) lf 0 (pcs b)) (areaOf V (1 - area)) 0 j (by omega)
      rw [← hCa, gt_of (by rw [areaOf_len (by omega)]; omega)] at hov
      split at hov
      · rename_i hc
        rw [gt_of hc.1] at hov
        exact ⟨by omega, by rw [h2]; exact Option.some.inj hov⟩
      · rw [gt_of (by omega)] at hov
        exact absurd (Option.some.inj hov) h1
  have hO : MarkedIn (areaOf V (1 - area)) e lf := hs.oth
  have hLife : LifeIn (areaOf X (1 - area)) lf := fun j hj hm => by
    rw [lA _ (by omega)] at hj
    rcases hmix j (by omega) with h1 | ⟨h1, h2⟩
    · rw [h1] at hm ⊢
      exact (hO j (by omega) hm).2
    · rw [h2]
      have := lsecs_mark (e := e + 1) (lf := lf) (by omega) l2 (b.length + 1) 1 b 0 (Nat.le_refl _) _ (gt_mem (l := dsec (e + 1) lf 0 (pcs b)) (i := j) (by omega))
      omega
  rcases part_area e1 (by omega) l1 l2 hbl hO (by rw [lA _ (by omega), lO]) (by omega) hmix with hall | hold
  · -- the checkpoint is whole
    refine .inr ⟨⟨(areaOf V (1 - area)).drop (needN b.length), ?_, ?_⟩, ⟨Nat.zero_le _, l1, Nat.le_refl _⟩, ?_, by simp, hLife, ?_, ?_, by omega, by omega, l2, by omega, by omega⟩
    · have e3 : lsecs (e + 1) 0 [(lf, b)] = dsec (e + 1) lf 0 (pcs b) := by simp [lsecs]
      rw [e3]
      apply list_gt
      · rw [lA _ (by omega), List.length_append, List.length_drop, lO]; omega
      · intro j hj
        rw [lA _ (by omega)] at hj
        rcases Nat.lt_or_ge j (needN b.length) with h1 | h1
        · rw [gt_append_left (by omega)]; exact hall j h1
        · obtain ⟨d, rfl⟩ : ∃ d, j = needN b.length + d := ⟨j - needN b.length, by omega⟩
          have e4 : gt (dsec (e + 1) lf 0 (pcs b) ++ (areaOf V (1 - area)).drop (needN b.length)) (needN b.length + d) = gt ((areaOf V (1 - area)).drop (needN b.length)) d := by rw [← hd, gt_append_len]
          rw [e4, show gt ((areaOf V (1 - area)).drop (needN b.length)) d = gt (areaOf V (1 - area)) (needN b.length + d) by unfold gt; rw [List.getD_eq_getElem?_getD, List.getD_eq_getElem?_getD, List.getElem?_drop]]
          rcases hmix (needN b.length + d) (by omega) with h2 | ⟨h2, _⟩
          · exact h2
          · omega
    · show noRec (e + 1) (needN b.length) _ false lf = true
      cases hc : (areaOf V (1 - area)).drop (needN b.length) with
      | nil => rfl
      | cons s r =>
        have h0 : staleS (e + 1) lf (needN b.length) s := fun hm he2 => by
          have hs0 : gt ((areaOf V (1 - area)).drop (needN b.length)) 0 = s := by rw [hc]; rfl
          rw [show gt ((areaOf V (1 - area)).drop (needN b.length)) 0 = gt (areaOf V (1 - area)) (needN b.length + 0) by unfold gt; rw [List.getD_eq_getElem?_getD, List.getD_eq_getElem?_getD, List.getElem?_drop]] at hs0
          have hlt : needN b.length < (areaOf V (1 - area)).length := by
            have : 0 < ((areaOf V (1 - area)).drop (needN b.length)).length := by rw [hc]; simp
            rw [List.length_drop] at this; omega
          rw [← hs0] at hm he2
          have := hO (needN b.length + 0) (by omega) hm
          omega
        rw [noRec, goes_stale h0]; rfl
    · intro x hx
      simp only [List.mem_singleton] at hx
      subst hx
      exact hbl
    · rw [show 1 - (1 - area) = area by omega, hXa]
      exact hY.cur.life
    · rw [show 1 - (1 - area) = area by omega, hXa]
      exact other_epoch hY.cur
  · exact .inl ⟨k, hk, by rw [hXa]; exact hY.lay, hY.up, hY.short, hY.ne, by rw [hXa]; exact hY.cur.life, hLife, hold, e1, e2, l2, a1, by omega⟩
end Go.Proofs.Ytdddehniepofmaa.Fn
namespace Go.Proofs.Ytdddehniepofmaa.Fn
open Go.AM Go.AM.Sym
set_option maxRecDepth 100000
set_option linter.unusedVariables false
set_option linter.unusedSimpArgs false
set_option maxHeartbeats 4000000

/-- A disk as it lies; its pending writes may be an empty list that has been made. -/
def PendOk (h0 : Nat) (G : Heap) (pp : Option Addr) (cp : Nat) (pend : List Wr) : Prop :=
  (pend = [] ∧ cp = 0 ∧ ∃ R, pp = some ⟨R, 0, none⟩ ∧ hget G R = .cells false [] ∧ h0 ≤ R) ∨ Own h0 G encW 33 pp cp pend
theorem PendOk.sl {h0 : Nat} {G : Heap} {pp : Option Addr} {cp : Nat} {pend : List Wr} (h : PendOk h0 G pp cp pend) : Sl G encW 33 pp pend := by
  rcases h with ⟨h1, _, R, h2, _⟩ | h
  · subst h1 h2; exact ⟨rfl, fun h => absurd rfl h⟩
  · exact h.sl encW_len
structure DL (h0 : Nat) (G : Heap) (D S n sc : Nat) (pp : Option Addr) (cp : Nat) (safe : List Sec) (pend : List Wr) : Prop where
  d : hget G D = .cells false [.slice (some ⟨S, 0, none⟩) n sc, .slice pp pend.length cp]
  s : hget G S = .cells false (safe.flatMap encX)
  p : PendOk h0 G pp cp pend
  len : safe.length = n
  lD : h0 ≤ D
  lS : h0 ≤ S
  SD : S ≠ D
  ps : ∀ a, pp = some a → a.block ≠ S ∧ a.block ≠ D
theorem copied_ok {lim D S n sc cp : Nat} {pp : Option Addr} {safe : List Sec} {pend : List Wr} {H : Heap} {Q : Value → Heap → Prop} (hD : hget H D = .cells false [.slice (some ⟨S, 0, none⟩) n sc, .slice pp pend.length cp]) (hS : hget H S = .cells false (safe.flatMap encX)) (hP : Sl H encW 33 pp pend) (hl : safe.length = n) (hn : 0 < n) (hn2 : n < 2 ^ 30) (hp : pend.length < 2 ^ 30) (hlim : lim ≤ H.length)
    (hQ : ∀ G D' S' pp' cp', Chg [] H G → DL H.length G D' S' n (loose 32) pp' cp' safe pend → Q (.pointer (some ⟨D', 0, none⟩)) G) :
    CallR E false lim 37 [.pointer (some ⟨D, 0, none⟩)] H Q := by
  refine runs (by decide) e37 rfl ?_
  rw [b37, c37]
  have hDX := fun X => (Ext.refl.app (X := X)).cells hD
  have hne : safe ≠ [] := fun e => by rw [e] at hl; simp at hl; omega
  have hS' : Sl H encX 32 (some ⟨S, 0, none⟩) safe := Sl.row encX_len hS
  have happ := fun X b d (h : hget (H ++ X) b = .cells false []) => append_new (lim := lim) (b := b) (d := d) (bytes := 32) (c := sc) h (hS'.app X) (by decide) (by unfold maxBytes; omega) (by omega) hne
  rw [hl] at happ
  by_cases hpe : pend = []
  · have hp0 : pend.length = 0 := by rw [hpe]; rfl
    rw [hp0] at hDX
    simp only [n37, r37, hDX, happ, append_new0, hlim, SB, Nat.reduceLT, callee, aOp, ne_eq, Nat.reduceEqDiff, aBin, aUn, if_true, if_false, reduceCtorEq, frame0, place, notTuple, Nat.reduceAdd, Nat.reduceLeDiff, resVal, dite_true, dite_false, Int.reduceEq, Int.reduceLT, Int.reduceLE]
    refine hQ _ (H.length + 4) (H.length + 1) (some ⟨H.length + 2, 0, none⟩) 0 Chg.refl.app ⟨?_, ?_, .inl ⟨hpe, rfl, H.length + 2, rfl, ?_, by omega⟩, hl, by omega, by omega, by omega, fun a ea => by cases ea; exact ⟨by show H.length + 2 ≠ _; omega, by show H.length + 2 ≠ _; omega⟩⟩
    · rw [hget_new, hp0]; rfl
    · rw [hget_new]; rfl
    · rw [hget_new]; rfl
  · have happ2 := fun X b d (h : hget (H ++ X) b = .cells false []) => append_new (lim := lim) (b := b) (d := d) (bytes := 40) (c := cp) h (hP.app X) (by decide) (by unfold maxBytes; omega) (by omega) hpe
    simp only [n37, r37, hDX, happ, happ2, hlim, SB, Nat.reduceLT, callee, aOp, ne_eq, Nat.reduceEqDiff, aBin, aUn, if_true, if_false, reduceCtorEq, frame0, place, notTuple, Nat.reduceAdd, Nat.reduceLeDiff, resVal, dite_true, dite_false, Int.reduceEq, Int.reduceLT, Int.reduceLE]
    refine hQ _ (H.length + 4) (H.length + 1) (some ⟨H.length + 3, 0, none⟩) (loose 33) Chg.refl.app ⟨?_, ?_, .inr (Own.new ?_ (by omega)), hl, by omega, by omega, by omega, fun a ea => by cases ea; exact ⟨by show H.length + 3 ≠ _; omega, by show H.length + 3 ≠ _; omega⟩⟩
    · rw [hget_new]; rfl
    · rw [hget_new]; rfl
    · rw [hget_new]; rfl
section
variable {h0 lim D S n sc cp : Nat} {pp : Option Addr} {safe : List Sec} {pend : List Wr} {G : Heap} {Q : Value → Heap → Prop}
theorem PendOk.chg {L : List Nat} {G' : Heap} (h : PendOk h0 G pp cp pend) (hc : Chg L G G') (hp : ∀ a, pp = some a → a.block ∉ L) : PendOk h0 G' pp cp pend := by
  rcases h with ⟨h1, h2, R, h3, h4, h5⟩ | h
  · exact .inl ⟨h1, h2, R, h3, hc.cells h4 (hp _ h3), h5⟩
  · exact .inr (h.chg hc hp)
theorem PendOk.block (h : PendOk h0 G pp cp pend) : ∀ a, pp = some a → h0 ≤ a.block ∧ a.block < G.length := fun a ea => by
  rcases h with ⟨h1, h2, R, h3, h4, h5⟩ | h
  · rw [h3] at ea; cases ea; exact ⟨h5, hget_alive h4⟩
  · exact h.block ea
theorem DL.chg {L : List Nat} {G' : Heap} (h : DL h0 G D S n sc pp cp safe pend) (hc : Chg L G G') (hL : ∀ j ∈ L, j ≠ D ∧ j ≠ S ∧ ∀ a, pp = some a → a.block ≠ j) : DL h0 G' D S n sc pp cp safe pend :=
  ⟨hc.cells h.d fun hh => (hL _ hh).1 rfl, hc.cells h.s fun hh => (hL _ hh).2.1 rfl, h.p.chg hc fun a ea hh => (hL _ hh).2.2 a ea rfl, h.len, h.lD, h.lS, h.SD, h.ps⟩
theorem DL.lives (h : DL h0 G D S n sc pp cp safe pend) : D < G.length ∧ S < G.length ∧ ∀ a, pp = some a → a.block < G.length := ⟨hget_alive h.d, hget_alive h.s, fun a ea => (h.p.block a ea).2⟩
/-- Such a disk may be changed if nothing of it was there. -/
theorem DL.new {L : List Nat} {G' : Heap} (h : DL h0 G D S n sc pp cp safe pend) (hc : Chg L G G') (hL : ∀ j ∈ L, j < h0) : DL h0 G' D S n sc pp cp safe pend :=
  h.chg hc fun j hj => by
    have h1 := hL j hj
    have h2 := h.lD
    have h3 := h.lS
    exact ⟨by omega, by omega, fun a ea => by have := (h.p.block a ea).1; omega⟩
theorem SyncD_ok (h : DL h0 G D S n sc pp cp safe pend) (hl : lim ≤ h0) (hn : 0 < n) (hn2 : n < 2 ^ 30) (hp : pend.length < 2 ^ 30)
    (hQ : ∀ G', Chg [S, D] G G' → DL h0 G' D S n sc none 0 (crashed [] pend safe) [] → Q (.tuple #[]) G') :
    CallR E false lim 14 [.pointer (some ⟨D, 0, none⟩)] G Q := by
  have hlen := h.len
  have hd := h.d
  rw [← hlen] at hd
  have hne : safe ≠ [] := fun e => by rw [e] at hlen; simp at hlen; omega
  have := h.lD
  have := h.lS
  refine Sync_ok hd (by omega) (fun _ => ⟨rfl, h.s, by omega⟩) h.SD h.p.sl (fun a ea _ => h.ps a ea) (by omega) (by omega) fun H' hC hD' hS' => ?_
  rw [hlen] at hD'
  exact hQ H' hC ⟨hD', hS' hne, .inr Own.nil, by rw [crashed_len]; exact hlen, h.lD, h.lS, h.SD, by intro a ea; cases ea⟩
theorem CrashD_ok {pl : Option Addr} {lc : Nat} {lost : List Bool} (h : DL h0 G D S n sc pp cp safe pend) (hl : lim ≤ h0) (hn : 0 < n) (hn2 : n < 2 ^ 30) (hp : pend.length < 2 ^ 30) (hL : Sl G encB 1 pl lost) (hLS : ∀ a, pl = some a → lost ≠ [] → a.block ≠ S ∧ a.block ≠ D) (hn3 : lost.length < 2 ^ 60)
    (hQ : ∀ G', Chg [S, D] G G' → DL h0 G' D S n sc none 0 (crashed lost pend safe) [] → Q (.tuple #[]) G') :
    CallR E false lim 13 [.pointer (some ⟨D, 0, none⟩), .slice pl lost.length lc] G Q := by
  have hlen := h.len
  have hd := h.d
  rw [← hlen] at hd
  have hne : safe ≠ [] := fun e => by rw [e] at hlen; simp at hlen; omega
  have := h.lD
  have := h.lS
  refine Crash_ok hd (by omega) (fun _ => ⟨rfl, h.s, by omega⟩) h.SD h.p.sl (fun a ea _ => h.ps a ea) hL hLS (by omega) (by omega) hn3 rfl fun H' hC hD' hS' => ?_
  rw [hlen] at hD'
  exact hQ H' hC ⟨hD', hS' hne, .inr Own.nil, by rw [crashed_len]; exact hlen, h.lD, h.lS, h.SD, by intro a ea; cases ea⟩
/-- Open on a disk with nothing pending, and records. -/
theorem OpenD_ok {area e lf : Nat} {rl : LR} (h : DL h0 G D S n sc none 0 safe []) (hl : lim ≤ h0) (hn : 4 ≤ n) (hn2 : n ≤ 32768) (hx : KX area e lf safe rl) (hlf : lf < 1073741824)
    (hQ : ∀ G' J lf', Chg [D] G G' → G.length ≤ J → Lies lim G' J D S area e lf' (lsize rl) sc none 0 safe [] → Q (.tuple #[.pointer (some ⟨J, 0, none⟩), .int .i64 0]) G') :
    CallR E false lim 35 [.pointer (some ⟨D, 0, none⟩)] G Q := by
  have hlen := h.len
  have hd := h.d
  rw [← hlen] at hd
  obtain ⟨o1, o2, _⟩ := hx.opened
  have := h.lD
  have := h.lS
  refine Open_ok hd h.s (by omega) (by omega) h.SD (by omega) (by omega) (by omega) (fun h => by rw [o1] at h; cases h) (fun G9 J9 hx hC9 hJ9 hL9 => ?_) (fun G9 J9 hx _ _ _ => by rw [o1] at hx; cases hx)
  rw [o1] at hL9
  exact hQ G9 J9 _ hC9 hJ9 hL9
/-- A write more, in a drawn region. -/
theorem PendOk.pushD {d b : Nat} {w : Wr} (h : PendOk h0 G pp cp pend) (hl : lim ≤ h0) (hlG : h0 ≤ G.length) (hn : pend.length < 2 ^ 30) (X : Heap) (hd1 : G.length ≤ d) (hd2 : d < G.length + X.length) (hb : hget (G ++ X) b = .cells false (encW w)) :
    ∃ G2 cp', aAppend lim (some d) 33 40 false (.slice pp pend.length cp) (.slice (some ⟨b, 0, none⟩) 1 1) (G ++ X) = some (.slice (some ⟨d, 0, none⟩) (pend.length + 1) cp', G2 ++ []) ∧ Own h0 (G2 ++ []) encW 33 (some ⟨d, 0, none⟩) cp' (pend ++ [w]) ∧ (∀ j, j < G.length → (∀ a, pp = some a → j ≠ a.block) → hget (G2 ++ []) j = hget G j) ∧ G.length ≤ G2.length := by
  have hf : firstCells (G ++ X) 33 false (.slice (some ⟨b, 0, none⟩) 1 1) = some ([w].flatMap encW) := by
    have hlw := encW_len w
    simp only [firstCells, Bool.false_eq_true, if_false, List.flatMap_cons, List.flatMap_nil, List.append_nil, show ((1 : Nat) = 0) = False from eq_false (by decide), loadCells_lit, hb]
    rw [if_pos (by omega), List.drop_zero, List.take_of_length_le (by omega)]
  rcases h with ⟨h1, h2, R, h3, h4, h5⟩ | h
  · subst h1 h2 h3
    refine ⟨(G ++ X).set d (.cells false ([w].flatMap encW)), loose 33, ?_, ?_, fun j hj _ => ?_, by simp⟩
    · have hR : AM.loadCells (G ++ X) ⟨R, 0, none⟩ (0 * 33) = some [] := by
        rw [loadCells_lit, hget_old (hget_alive h4), h4]; rfl
      have hc : ¬ ((0 + 1) * 40 > maxBytes ∨ 0 + 1 ≥ 2 ^ 62 ∨ 0 < 0) := by unfold maxBytes; omega
      unfold aAppend
      simp only [hf, lenOf, List.length_nil, show ((33 : Nat) = 0) = False from eq_false (by decide), false_or]
      rw [if_neg hc, if_neg (by decide), hR]
      dsimp only
      rw [if_neg (by unfold loose; decide), if_pos (by decide), if_neg (by decide)]
      simp [place]
    · rw [List.append_nil, List.nil_append]
      exact Own.new (hget_set_eq (by simp; omega)) (by omega)
    · rw [List.append_nil, hget_set_ne (by omega), hget_old hj]
  · obtain ⟨G2, p', cap', e1, O2, _, hold, l2, hp, _⟩ := h.moreD (d := d) (lim' := lim) (bytes := 40) hl encW_len (by decide) [w] (by unfold maxBytes; simp; omega) (by simp; omega) hlG X hd1 hd2 hf rfl
    have hp' := hp (by simp)
    subst hp'
    exact ⟨G2, cap', e1, O2, hold, l2⟩
end
end Go.Proofs.Ytdddehniepofmaa.Fn
namespace Go.Proofs.Ytdddehniepofmaa.Fn
open Go.AM Go.AM.Sym
set_option maxRecDepth 100000
set_option linter.unusedVariables false
set_option linter.unusedSimpArgs false
set_option maxHeartbeats 4000000

/-- The rows of the model beside a journal. -/
structure MJ (H : Heap) (J D S i : Nat) (s : SJ) (R cq : Nat) (ds : List Desc) (l : List (List UInt8)) (G : Heap) : Prop where
  mod : Mod H.length G R cq ds l (J :: D :: S :: blk s.pp)
  rsz : ∀ k, k < l.length → ∀ a, (gt ds k).1 = some a → a.block < G.length
  rlen : ∀ k, k < l.length → (gt l k).length < 2 ^ 60
  lm : l = (s.rl ++ s.bs).map (·.2)
  llen : l.length ≤ i + 1
section
variable {lim n J D S i h cb R cq : Nat} {H G : Heap} {s s3 : SJ} {q : Option Addr} {b : List UInt8} {ds : List Desc} {l : List (List UInt8)}
theorem MJ.lt (M : MJ H J D S i s R cq ds l G) : R < G.length := by
  obtain ⟨rest, hRb⟩ := M.mod.blkR
  exact hget_alive hRb
theorem MJ.step {i' : Nat} (M : MJ H J D S i s R cq ds l G) (h : i ≤ i') : MJ H J D S i' s R cq ds l G := ⟨M.mod, M.rsz, M.rlen, M.lm, by have := M.llen; omega⟩
theorem MJ.to {G' : Heap} (M : MJ H J D S i s R cq ds l G) (hc : Chg [] G G') : MJ H J D S i s R cq ds l G' :=
  ⟨M.mod.chg hc (by simp), fun k hk a ea => by have := M.rsz k hk a ea; have := hc.len; omega, M.rlen, M.lm, M.llen⟩
theorem MJ.commit {G' : Heap} (M : MJ H J D S i s R cq ds l G) (hc : Chg [S, D] G G') (h1 : s3.rl = s.rl ++ s.bs) (h2 : s3.bs = []) (h3 : s3.pp = none) : MJ H J D S i s3 R cq ds l G' :=
  ⟨(M.mod.chg hc (fun j hj => .inl (by simp only [List.mem_cons, List.not_mem_nil, or_false] at hj ⊢; omega))).away (g := G.length) M.lt (fun j hj => .inl (by rw [h3] at hj; simp only [List.mem_cons, blk, List.not_mem_nil, or_false] at hj ⊢; omega)) M.rsz, fun k hk a ea => by have := M.rsz k hk a ea; have := hc.len; omega, M.rlen, by rw [h1, h2, List.append_nil]; exact M.lm, M.llen⟩
theorem MJ.push {G3 : Heap} (I : KJ lim n J D S H i s G) (M : MJ H J D S i s R cq ds l G) (I3 : KJ lim n J D S H (i + 1) s3 G3) (hi : i < 1000) (hlim : lim ≤ H.length) (hbs : s3.bs = s.bs ++ [(s.lf, b)]) (hrl : s3.rl = s.rl) (hC3 : Chg (J :: D :: blk s.pp) G G3) (hpp : ∀ a, s3.pp = some a → a.block ∈ blk s.pp ∨ G.length ≤ a.block) (hF : Fresh h G q cb b) (hav : ∀ j ∈ J :: D :: S :: blk s.pp, j < h) (hR : R < h) (hH : H.length ≤ h) :
    ∃ G4, aAppend lim none 1 24 false (.slice (some ⟨R, 0, none⟩) l.length cq) (.slice (some ⟨G3.length, 0, none⟩) 1 1) (G3 ++ [.cells false [.slice q b.length cb]]) = some (.slice (some ⟨G3.length + 1, 0, none⟩) (l.length + 1) (loose 1), G4) ∧ KJ lim n J D S H (i + 1) s3 G4 ∧ MJ H J D S (i + 1) s3 (G3.length + 1) (loose 1) (ds ++ [(q, b.length, cb)]) (l ++ [b]) G4 ∧ Chg [R] G3 G4 := by
  have hC3l := hC3.len
  obtain ⟨lJ, lD, lS, lP⟩ := I.lives
  obtain ⟨lJ3, lD3, lS3, lP3⟩ := I3.lives
  have hRl := M.lt
  have hap := fresh_ap hF hav
  have hcl := I.chg.len
  have hll := M.llen
  have hb60 := hF.len
  have hq : ∀ a, q = some a → a.block ∉ (J :: D :: S :: blk s3.pp) ∧ a.block ≠ R ∧ H.length ≤ a.block ∧ a.block < G3.length := fun a ea => by
    have h1 := hF.own.block ea
    have h2 := hap a ea
    simp only [List.mem_cons, not_or] at h2
    refine ⟨fun hh => ?_, by omega, by omega, by omega⟩
    simp only [List.mem_cons] at hh
    rcases hh with hh | hh | hh | hh
    · exact h2.1 hh
    · exact h2.2.1 hh
    · exact h2.2.2.1 hh
    · obtain ⟨a', e1, e2⟩ := blk_mem.1 hh
      rcases hpp a' e1 with h3 | h3
      · exact h2.2.2.2 (e2 ▸ h3)
      · omega
  have hmod := (M.mod.chg hC3 (fun j hj => .inl (by
    simp only [List.mem_cons] at hj ⊢
    rcases hj with hj | hj | hj
    · exact .inl hj
    · exact .inr (.inl hj)
    · exact .inr (.inr (.inr hj))))).away (B := J :: D :: S :: blk s3.pp) (g := G.length) hRl (fun j hj => by
    simp only [List.mem_cons] at hj ⊢
    rcases hj with hj | hj | hj | hj
    · exact .inl (.inl hj)
    · exact .inl (.inr (.inl hj))
    · exact .inl (.inr (.inr (.inl hj)))
    · obtain ⟨a', e1, e2⟩ := blk_mem.1 hj
      rcases hpp a' e1 with h3 | h3
      · exact .inl (.inr (.inr (.inr (e2 ▸ h3))))
      · exact .inr (.inr (by omega))) M.rsz
  obtain ⟨G4, e1, M4, C4, l4⟩ := hmod.snoc (lim := lim) hlim (q := q) (cr := cb) (r := b) (hC3.sl (hF.own.sl encb_len) fun a ea hb => by
      have := hap a ea
      simp only [List.mem_cons, not_or] at this ⊢
      exact ⟨this.1, this.2.1, this.2.2.2⟩) hq (fun k hk a ea => by have := M.rsz k hk a ea; omega) (fun j hj => by
      simp only [List.mem_cons] at hj
      rcases hj with hj | hj | hj | hj
      · omega
      · omega
      · omega
      · obtain ⟨a', e1, e2⟩ := blk_mem.1 hj
        have := lP3 a' e1
        omega) (by omega) (by omega) [.cells false (encD (q, b.length, cb))] G3.length 1 (by rw [hget_new0]; rfl)
  simp only [encD, List.length_cons, List.length_nil, Nat.zero_add] at e1
  simp only [List.length_cons, List.length_nil, Nat.zero_add] at M4 l4
  have hRout := hmod.out
  simp only [List.mem_cons, not_or] at hRout
  refine ⟨G4, e1, I3.to C4 (fun j hj => ?_), ⟨M4, fun k hk a ea => ?_, fun k hk => ?_, ?_, by simp; omega⟩, C4⟩
  · simp only [List.mem_singleton] at hj
    subst hj
    exact ⟨M.mod.lo, hRout.1, hRout.2.1, hRout.2.2.1, fun a ea e => hRout.2.2.2 (blk_mem.2 ⟨a, ea, e⟩)⟩
  · have hk' : k < l.length + 1 := by simpa using hk
    by_cases hkl : k < l.length
    · rw [gt_append_left (by rw [M.mod.len]; exact hkl)] at ea
      have := M.rsz k hkl a ea
      omega
    · have : k = l.length := by omega
      subst this
      rw [show gt (ds ++ [(q, b.length, cb)]) l.length = (q, b.length, cb) by rw [← M.mod.len]; exact gt_append_len (i := 0)] at ea
      have := (hq a ea).2.2.2
      omega
  · have hk' : k < l.length + 1 := by simpa using hk
    by_cases hkl : k < l.length
    · rw [gt_append_left hkl]; exact M.rlen k hkl
    · have : k = l.length := by omega
      subst this
      rw [show gt (l ++ [b]) l.length = b from gt_append_len (i := 0)]
      omega
  · rw [hrl, hbs, ← List.append_assoc, List.map_append, ← M.lm]; rfl
end
def B9 : ACode := bdC (hdC (tlC (tlC l9_2)))
def FIN9 : ACode := tlC (tlC (tlC (tlC B9)))
def INC9 : ACode := tlC (tlC (tlC l9_2))
theorem l9_cut : l9_2 = .seq (hdC l9_2) (.seq (hdC (tlC l9_2)) (.seq (.block 1 (.seq (hdC B9) (.seq (hdC (tlC B9)) (.seq (hdC (tlC (tlC B9))) (.seq (hdC (tlC (tlC (tlC B9)))) FIN9))))) INC9)) := rfl
/-- The frame of JournalSnaps in its loop. -/
structure F9 (J D R cq ll safe c i : Nat) (m : Value) (B6 : Nat) (p : Option Addr) (ns : Nat) (fr : Nat → Value) : Prop where
  f9 : fr 9 = .pointer (some ⟨J, 0, none⟩)
  f10 : fr 10 = .pointer (some ⟨D, 0, none⟩)
  f12 : fr 12 = .slice (some ⟨R, 0, none⟩) ll cq
  f13 : fr 13 = .int .i64 (safe : Int)
  f3 : fr 3 = m
  f6 : fr 6 = .pointer (some ⟨B6, 0, none⟩)
  f38 : fr 38 = .slice p ns c
  f39 : fr 39 = .int .i64 (ns : Int)
  f40 : fr 40 = .int .i64 (i : Int)
theorem snap_loop {lim n J D S c B6 R0 cq0 : Nat} {m : Value} {p : Option Addr} {steps : List Stp} {H G0 : Heap} {s0 : SJ} {ds0 : List Desc} {l0 : List (List UInt8)} {fr : Nat → Value} {K : List AItem} {Rt : Value → Heap → Prop} (hs : Sl H encS 4 p steps) (hlim : lim ≤ H.length) (hn : steps.length < 2 ^ 63) (hn15 : n < 2 ^ 15) (I0 : KJ lim n J D S H 0 s0 G0) (M0 : MJ H J D S 0 s0 R0 cq0 ds0 l0 G0) (F0 : F9 J D R0 cq0 l0.length s0.rl.length c 0 m B6 p steps.length fr)
    (hR : ∀ i s R cq ds l fr' G', i ≤ 12 → KJ lim n J D S H i s G' → MJ H J D S i s R cq ds l G' → F9 J D R cq l.length s.rl.length c i m B6 p steps.length fr' → Ret E a9 lim K fr' (G' ++ []) Rt) :
    Ret E a9 lim (.code (.loop l9_2) :: .inBlock 0 :: K) fr G0 Rt := by
  refine Ret_rounds (fun x : Nat × SJ × Nat × Nat × List Desc × List (List UInt8) => steps.length - x.1) (fun x fr G => x.1 ≤ steps.length ∧ x.1 ≤ 12 ∧ KJ lim n J D S H x.1 x.2.1 G ∧ MJ H J D S x.1 x.2.1 x.2.2.1 x.2.2.2.1 x.2.2.2.2.1 x.2.2.2.2.2 G ∧ F9 J D x.2.2.1 x.2.2.2.1 x.2.2.2.2.2.length x.2.1.rl.length c x.1 m B6 p steps.length fr) (0, s0, R0, cq0, ds0, l0)
    ⟨Nat.zero_le _, Nat.zero_le _, I0, M0, F0⟩ ?_
  rintro ⟨i, s, R, cq, ds, l⟩ fr G ⟨hi, hi12, I, M, F⟩ hN
  simp only at hi hi12 I M F
  have g9 := F.f9
  have g10 := F.f10
  have g12 := F.f12
  have g13 := F.f13
  have g38 := F.f38
  have g39 := F.f39
  have g40 := F.f40
  obtain ⟨L, hL⟩ : ∃ L, L = l9_2 := ⟨_, rfl⟩
  have hI : AItem.inLoop l9_2 = AItem.inLoop L := by rw [hL]
  rw [hI] at hN ⊢
  rw [Ret_code l9_cut]
  simp only [l9_2, B9, bdC, hdC, tlC]
  refine Ret_pad ?_
  have hCl := I.chg.len
  by_cases hlt : i < steps.length
  case neg =>
    obtain rfl : i = steps.length := by omega
    simp only [n9, r9, g9, g10, g12, g38, g39, g40, hlt, SB, Nat.reduceLT, callee, aOp, ne_eq, Nat.reduceEqDiff, aBin, aUn, if_true, if_false, reduceCtorEq, frame0, place, notTuple, Nat.reduceAdd, Nat.reduceLeDiff, resVal, dite_true, dite_false, Int.reduceEq, Int.reduceLT, Int.reduceLE]
    rw [List.append_nil]
    refine Ret_pad ?_
    exact hR _ s R cq ds l _ _ hi12 I M ⟨(by simp only [g9, upd_same, upd_ne, ne_eq, Nat.reduceEqDiff, not_false_eq_true, frame0, List.getD_cons_zero, List.getD_cons_succ]), (by simp only [g10, upd_same, upd_ne, ne_eq, Nat.reduceEqDiff, not_false_eq_true, frame0, List.getD_cons_zero, List.getD_cons_succ]), (by simp only [g12, upd_same, upd_ne, ne_eq, Nat.reduceEqDiff, not_false_eq_true, frame0, List.getD_cons_zero, List.getD_cons_succ]), (by simp only [g13, upd_same, upd_ne, ne_eq, Nat.reduceEqDiff, not_false_eq_true, frame0, List.getD_cons_zero, List.getD_cons_succ]), by rw [← F.f3]; exact (by simp only [upd_same, upd_ne, ne_eq, Nat.reduceEqDiff, not_false_eq_true, frame0, List.getD_cons_zero, List.getD_cons_succ]), by rw [← F.f6]; exact (by simp only [upd_same, upd_ne, ne_eq, Nat.reduceEqDiff, not_false_eq_true, frame0, List.getD_cons_zero, List.getD_cons_succ]), (by simp only [g38, upd_same, upd_ne, ne_eq, Nat.reduceEqDiff, not_false_eq_true, frame0, List.getD_cons_zero, List.getD_cons_succ]), (by simp only [g39, upd_same, upd_ne, ne_eq, Nat.reduceEqDiff, not_false_eq_true, frame0, List.getD_cons_zero, List.getD_cons_succ]), (by simp only [g40, upd_same, upd_ne, ne_eq, Nat.reduceEqDiff, not_false_eq_true, frame0, List.getD_cons_zero, List.getD_cons_succ])⟩
  have hsG := I.chg.sl hs (by simp)
  have hld := fun X => (hsG.app X).loadCells encS_len hlt
  have hidx := fun c (k : IntKind) (H1 : Heap) => hsG.idx (c := c) (k := k) (H1 := H1) hlt
  have hw1 : IntKind.i64.wrap ((i : Int) + 1) = ((i + 1 : Nat) : Int) := wrap_nat (by omega)
  have hlG : lim ≤ G.length := by omega
  simp only [encS] at hld
  by_cases h20 : i = 12
  · have h20' : ((i : Int) = 12) = True := eq_true (by omega)
    simp only [n9, r9, g9, g10, g12, g38, g39, g40, hlt, hld, hidx, h20', hlG, SB, Nat.reduceLT, callee, aOp, ne_eq, Nat.reduceEqDiff, aBin, aUn, if_true, if_false, reduceCtorEq, frame0, place, notTuple, Nat.reduceAdd, Nat.reduceLeDiff, resVal, dite_true, dite_false, Int.reduceEq, Int.reduceLT, Int.reduceLE]
    refine Ret_pad ?_
    refine hR _ s R cq ds l _ _ hi12 (I.to (Chg.refl.app : Chg [] G _) (by simp)) (M.to Chg.refl.app) ⟨(by simp only [g9, upd_same, upd_ne, ne_eq, Nat.reduceEqDiff, not_false_eq_true, frame0, List.getD_cons_zero, List.getD_cons_succ]), (by simp only [g10, upd_same, upd_ne, ne_eq, Nat.reduceEqDiff, not_false_eq_true, frame0, List.getD_cons_zero, List.getD_cons_succ]), (by simp only [g12, upd_same, upd_ne, ne_eq, Nat.reduceEqDiff, not_false_eq_true, frame0, List.getD_cons_zero, List.getD_cons_succ]), (by simp only [g13, upd_same, upd_ne, ne_eq, Nat.reduceEqDiff, not_false_eq_true, frame0, List.getD_cons_zero, List.getD_cons_succ]), by rw [← F.f3]; exact (by simp only [upd_same, upd_ne, ne_eq, Nat.reduceEqDiff, not_false_eq_true, frame0, List.getD_cons_zero, List.getD_cons_succ]), by rw [← F.f6]; exact (by simp only [upd_same, upd_ne, ne_eq, Nat.reduceEqDiff, not_false_eq_true, frame0, List.getD_cons_zero, List.getD_cons_succ]), (by simp only [g38, upd_same, upd_ne, ne_eq, Nat.reduceEqDiff, not_false_eq_true, frame0, List.getD_cons_zero, List.getD_cons_succ]), (by simp only [g39, upd_same, upd_ne, ne_eq, Nat.reduceEqDiff, not_false_eq_true, frame0, List.getD_cons_zero, List.getD_cons_succ]), (by simp only [g40, upd_same, upd_ne, ne_eq, Nat.reduceEqDiff, not_false_eq_true, frame0, List.getD_cons_zero, List.getD_cons_succ])⟩
  have h20' : ((i : Int) = 12) = False := eq_false (by omega)
  obtain ⟨lJ, lD, lS, lP⟩ := I.lives
  have hav : ∀ j ∈ J :: D :: S :: blk s.pp, j < G.length + 1 := fun j hj => by
    simp only [List.mem_cons] at hj
    rcases hj with hj | hj | hj | hj
    · omega
    · omega
    · omega
    · obtain ⟨a, e1, e2⟩ := blk_mem.1 hj
      have := lP a e1
      omega
  have hGA : G.length ∉ (J :: D :: blk s.pp) := fun hh => by
    simp only [List.mem_cons] at hh
    rcases hh with hj | hj | hj
    · omega
    · omega
    · obtain ⟨a, e1, e2⟩ := blk_mem.1 hj
      have := lP a e1
      omega
  have fin : ∀ (s' : SJ) (R' cq' : Nat) (ds' : List Desc) (l' : List (List UInt8)) (fr' : Nat → Value) (G' : Heap), KJ lim n J D S H (i + 1) s' G' → MJ H J D S (i + 1) s' R' cq' ds' l' G' → hget G' G.length = .cells false [.int .u8 ((gt steps i).a.toNat : Int), .int .u8 ((gt steps i).b.toNat : Int), .int .u8 ((gt steps i).c.toNat : Int), .int .u64 (gt steps i).m] → F9 J D R' cq' l'.length s'.rl.length c i m B6 p steps.length fr' → fr' 15 = .pointer (some ⟨G.length, 0, none⟩) →
      Ret E a9 lim (.code FIN9 :: .inBlock 1 :: .code INC9 :: .inLoop L :: .inBlock 0 :: K) fr' (G' ++ []) Rt := by
    intro s' R' cq' ds' l' fr' G' I' M' hB F g15
    have hBX := fun X => (Ext.refl.app (X := X)).cells hB
    have g9 := F.f9
    have g10 := F.f10
    have g12 := F.f12
    have g13 := F.f13
    have g38 := F.f38
    have g39 := F.f39
    have g40 := F.f40
    simp only [FIN9, INC9, B9, l9_2, hdC, tlC, bdC]
    by_cases h3 : (gt steps i).a.toNat % 3 = 0
    · have h3' : Int.tmod ((gt steps i).a.toNat : Int) 3 = 0 := by
        rw [show Int.tmod ((gt steps i).a.toNat : Int) 3 = (((gt steps i).a.toNat % 3 : Nat) : Int) from rfl, h3]; rfl
      simp only [n9, r9, g9, g10, g12, g15, g38, g39, g40, hBX, h3', eq_true h3', SB, Nat.reduceLT, callee, aOp, ne_eq, Nat.reduceEqDiff, aBin, aUn, if_true, if_false, reduceCtorEq, frame0, place, notTuple, Nat.reduceAdd, Nat.reduceLeDiff, resVal, dite_true, dite_false, Int.reduceEq, Int.reduceLT, Int.reduceLE]
      rw [List.append_nil]
      refine I'.commit (by omega) fun s2 G2 I2 k1 k2 k3 _ _ _ hC2 => ?_
      have M2 := M'.commit hC2 k1 k2 k3
      have hl2 : (l'.length : Int) = (s2.rl.length : Int) := by rw [M2.lm, k2, List.append_nil, List.length_map]
      refine Ret_pad ?_
      simp only [n9, r9, g9, g10, g12, g15, g38, g39, g40, hw1, SB, Nat.reduceLT, callee, aOp, ne_eq, Nat.reduceEqDiff, aBin, aUn, if_true, if_false, reduceCtorEq, frame0, place, notTuple, Nat.reduceAdd, Nat.reduceLeDiff, resVal, dite_true, dite_false, Int.reduceEq, Int.reduceLT, Int.reduceLE]
      rw [List.append_nil]
      exact hN (i + 1, s2, R', cq', ds', l') _ _ ⟨by show i + 1 ≤ _; omega, by show i + 1 ≤ 12; omega, I2, M2, ⟨(by simp only [g9, upd_same, upd_ne, ne_eq, Nat.reduceEqDiff, not_false_eq_true, frame0, List.getD_cons_zero, List.getD_cons_succ]), (by simp only [g10, upd_same, upd_ne, ne_eq, Nat.reduceEqDiff, not_false_eq_true, frame0, List.getD_cons_zero, List.getD_cons_succ]), (by simp only [g12, upd_same, upd_ne, ne_eq, Nat.reduceEqDiff, not_false_eq_true, frame0, List.getD_cons_zero, List.getD_cons_succ]), by rw [← hl2]; exact (by simp only [upd_same, upd_ne, ne_eq, Nat.reduceEqDiff, not_false_eq_true, frame0, List.getD_cons_zero, List.getD_cons_succ]), by rw [← F.f3]; exact (by simp only [upd_same, upd_ne, ne_eq, Nat.reduceEqDiff, not_false_eq_true, frame0, List.getD_cons_zero, List.getD_cons_succ]), by rw [← F.f6]; exact (by simp only [upd_same, upd_ne, ne_eq, Nat.reduceEqDiff, not_false_eq_true, frame0, List.getD_cons_zero, List.getD_cons_succ]), (by simp only [g38, upd_same, upd_ne, ne_eq, Nat.reduceEqDiff, not_false_eq_true, frame0, List.getD_cons_zero, List.getD_cons_succ]), (by simp only [g39, upd_same, upd_ne, ne_eq, Nat.reduceEqDiff, not_false_eq_true, frame0, List.getD_cons_zero, List.getD_cons_succ]), (by simp only [upd_same, upd_ne, ne_eq, Nat.reduceEqDiff, not_false_eq_true, frame0, List.getD_cons_zero, List.getD_cons_succ])⟩⟩ (by show _ - (i + 1) < _ - i; omega)
    · have h3' : ¬ Int.tmod ((gt steps i).a.toNat : Int) 3 = 0 := by
        rw [show Int.tmod ((gt steps i).a.toNat : Int) 3 = (((gt steps i).a.toNat % 3 : Nat) : Int) from rfl]; omega
      simp only [n9, r9, g9, g10, g12, g15, g38, g39, g40, hBX, h3', eq_false h3', hw1, SB, Nat.reduceLT, callee, aOp, ne_eq, Nat.reduceEqDiff, aBin, aUn, if_true, if_false, reduceCtorEq, frame0, place, notTuple, Nat.reduceAdd, Nat.reduceLeDiff, resVal, dite_true, dite_false, Int.reduceEq, Int.reduceLT, Int.reduceLE]
      rw [List.append_nil]
      exact hN (i + 1, s', R', cq', ds', l') _ _ ⟨by show i + 1 ≤ _; omega, by show i + 1 ≤ 12; omega, I', M', ⟨(by simp only [g9, upd_same, upd_ne, ne_eq, Nat.reduceEqDiff, not_false_eq_true, frame0, List.getD_cons_zero, List.getD_cons_succ]), (by simp only [g10, upd_same, upd_ne, ne_eq, Nat.reduceEqDiff, not_false_eq_true, frame0, List.getD_cons_zero, List.getD_cons_succ]), (by simp only [g12, upd_same, upd_ne, ne_eq, Nat.reduceEqDiff, not_false_eq_true, frame0, List.getD_cons_zero, List.getD_cons_succ]), (by simp only [g13, upd_same, upd_ne, ne_eq, Nat.reduceEqDiff, not_false_eq_true, frame0, List.getD_cons_zero, List.getD_cons_succ]), by rw [← F.f3]; exact (by simp only [upd_same, upd_ne, ne_eq, Nat.reduceEqDiff, not_false_eq_true, frame0, List.getD_cons_zero, List.getD_cons_succ]), by rw [← F.f6]; exact (by simp only [upd_same, upd_ne, ne_eq, Nat.reduceEqDiff, not_false_eq_true, frame0, List.getD_cons_zero, List.getD_cons_succ]), (by simp only [g38, upd_same, upd_ne, ne_eq, Nat.reduceEqDiff, not_false_eq_true, frame0, List.getD_cons_zero, List.getD_cons_succ]), (by simp only [g39, upd_same, upd_ne, ne_eq, Nat.reduceEqDiff, not_false_eq_true, frame0, List.getD_cons_zero, List.getD_cons_succ]), (by simp only [upd_same, upd_ne, ne_eq, Nat.reduceEqDiff, not_false_eq_true, frame0, List.getD_cons_zero, List.getD_cons_succ])⟩⟩ (by show _ - (i + 1) < _ - i; omega)
  simp only [n9, r9, g9, g10, g12, g38, g39, g40, hlt, hld, hidx, h20', hlG, SB, Nat.reduceLT, callee, aOp, ne_eq, Nat.reduceEqDiff, aBin, aUn, if_true, if_false, reduceCtorEq, frame0, place, notTuple, Nat.reduceAdd, Nat.reduceLeDiff, resVal, dite_true, dite_false, Int.reduceEq, Int.reduceLT, Int.reduceLE]
  refine record_ok (by omega) (by simp; omega) fun G2 q cb b hC2 hF => ?_
  have hB2 := hC2.cells (j := G.length) (by rw [hget_new0]; rfl) (by simp)
  have hC12 : Chg [] G G2 := hC2.pre
  have I2 := I.to hC12 (by simp)
  have M2 := M.to hC12
  rw [List.length_append] at hF
  refine Ret_pad ?_
  simp only [n9, r9, g9, g10, g12, g38, g39, g40, SB, Nat.reduceLT, callee, aOp, ne_eq, Nat.reduceEqDiff, aBin, aUn, if_true, if_false, reduceCtorEq, frame0, place, notTuple, Nat.reduceAdd, Nat.reduceLeDiff, resVal, dite_true, dite_false, Int.reduceEq, Int.reduceLT, Int.reduceLE]
  rw [List.append_nil]
  refine I2.append (by omega) (by omega) hF hav ?_ fun s3 G3 I3 k1 k2 k3 hC3 hp3 => ?_
  · refine Ret_pad ?_
    simp only [n9, r9, g9, g10, g12, g38, g39, g40, SB, Nat.reduceLT, callee, aOp, ne_eq, Nat.reduceEqDiff, aBin, aUn, if_true, if_false, reduceCtorEq, frame0, place, notTuple, Nat.reduceAdd, Nat.reduceLeDiff, resVal, dite_true, dite_false, Int.reduceEq, Int.reduceLT, Int.reduceLE]
    rw [List.append_nil]
    refine Ret_pad ?_
    exact fin s R cq ds l _ G2 (I2.step (by omega)) (M2.step (by omega)) hB2 ⟨(by simp only [g9, upd_same, upd_ne, ne_eq, Nat.reduceEqDiff, not_false_eq_true, frame0, List.getD_cons_zero, List.getD_cons_succ]), (by simp only [g10, upd_same, upd_ne, ne_eq, Nat.reduceEqDiff, not_false_eq_true, frame0, List.getD_cons_zero, List.getD_cons_succ]), (by simp only [g12, upd_same, upd_ne, ne_eq, Nat.reduceEqDiff, not_false_eq_true, frame0, List.getD_cons_zero, List.getD_cons_succ]), (by simp only [g13, upd_same, upd_ne, ne_eq, Nat.reduceEqDiff, not_false_eq_true, frame0, List.getD_cons_zero, List.getD_cons_succ]), by rw [← F.f3]; exact (by simp only [upd_same, upd_ne, ne_eq, Nat.reduceEqDiff, not_false_eq_true, frame0, List.getD_cons_zero, List.getD_cons_succ]), by rw [← F.f6]; exact (by simp only [upd_same, upd_ne, ne_eq, Nat.reduceEqDiff, not_false_eq_true, frame0, List.getD_cons_zero, List.getD_cons_succ]), (by simp only [g38, upd_same, upd_ne, ne_eq, Nat.reduceEqDiff, not_false_eq_true, frame0, List.getD_cons_zero, List.getD_cons_succ]), (by simp only [g39, upd_same, upd_ne, ne_eq, Nat.reduceEqDiff, not_false_eq_true, frame0, List.getD_cons_zero, List.getD_cons_succ]), (by simp only [g40, upd_same, upd_ne, ne_eq, Nat.reduceEqDiff, not_false_eq_true, frame0, List.getD_cons_zero, List.getD_cons_succ])⟩ (by simp only [upd_same, upd_ne, ne_eq, Nat.reduceEqDiff, not_false_eq_true, frame0, List.getD_cons_zero, List.getD_cons_succ])
  · have hRl := M.lt
    obtain ⟨G4, e4, I4, M4, C4⟩ := M2.push I2 I3 (by omega) hlim k2 k1 hC3 hp3 hF hav (by simp; omega) (by simp; omega)
    have hB4 := C4.cells (hC3.cells hB2 hGA) (by simp; omega)
    refine Ret_pad ?_
    simp only [n9, r9, g9, g10, g12, g38, g39, g40, e4, SB, Nat.reduceLT, callee, aOp, ne_eq, Nat.reduceEqDiff, aBin, aUn, if_true, if_false, reduceCtorEq, frame0, place, notTuple, Nat.reduceAdd, Nat.reduceLeDiff, resVal, dite_true, dite_false, Int.reduceEq, Int.reduceLT, Int.reduceLE]
    refine Ret_pad ?_
    exact fin s3 _ _ _ _ _ G4 I4 M4 hB4 ⟨(by simp only [g9, upd_same, upd_ne, ne_eq, Nat.reduceEqDiff, not_false_eq_true, frame0, List.getD_cons_zero, List.getD_cons_succ]), (by simp only [g10, upd_same, upd_ne, ne_eq, Nat.reduceEqDiff, not_false_eq_true, frame0, List.getD_cons_zero, List.getD_cons_succ]), by rw [List.length_append]; show _ = Value.slice _ (l.length + 1) _; exact (by simp only [upd_same, upd_ne, ne_eq, Nat.reduceEqDiff, not_false_eq_true, frame0, List.getD_cons_zero, List.getD_cons_succ]), by rw [k1]; exact (by simp only [g13, upd_same, upd_ne, ne_eq, Nat.reduceEqDiff, not_false_eq_true, frame0, List.getD_cons_zero, List.getD_cons_succ]), by rw [← F.f3]; exact (by simp only [upd_same, upd_ne, ne_eq, Nat.reduceEqDiff, not_false_eq_true, frame0, List.getD_cons_zero, List.getD_cons_succ]), by rw [← F.f6]; exact (by simp only [upd_same, upd_ne, ne_eq, Nat.reduceEqDiff, not_false_eq_true, frame0, List.getD_cons_zero, List.getD_cons_succ]), (by simp only [g38, upd_same, upd_ne, ne_eq, Nat.reduceEqDiff, not_false_eq_true, frame0, List.getD_cons_zero, List.getD_cons_succ]), (by simp only [g39, upd_same, upd_ne, ne_eq, Nat.reduceEqDiff, not_false_eq_true, frame0, List.getD_cons_zero, List.getD_cons_succ]), (by simp only [g40, upd_same, upd_ne, ne_eq, Nat.reduceEqDiff, not_false_eq_true, frame0, List.getD_cons_zero, List.getD_cons_succ])⟩ (by simp only [upd_same, upd_ne, ne_eq, Nat.reduceEqDiff, not_false_eq_true, frame0, List.getD_cons_zero, List.getD_cons_succ])
end Go.Proofs.Ytdddehniepofmaa.Fn
