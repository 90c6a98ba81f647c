/- Plain laws on UTF-8 and on the words of a text, no program in sight. -/
import Derived.Lib.OthersKept
import Derived.Lib.IsU
import Derived.Lib.Strings
import Derived.Lib.IndexBytes
import Derived.Lib.DecodeN
import Derived.Lib.MapLaws
import Derived.Lib.TrimU
import Derived.Lib.QuoteLoop
namespace Go.Proofs.YtibnpbfggbbchaaDoor
open Go.RowKit

def bt (l : List UInt8) (k : Nat) : Nat := (l[k]?.getD 0).toNat
/-- The rune with which a list of bytes begins, and its width. -/
def dec (l : List UInt8) : Nat × Nat := Lib.decodeN l.length (bt l 0) (bt l 1) (bt l 2) (bt l 3)

theorem get_bt (s : ByteArray) (pos k : Nat) : (s.get! (pos + k)).toNat = bt (s.data.toList.drop pos) k := by
  unfold bt
  rw [List.getElem?_drop]
  have : s.get! (pos + k) = s.data.toList[pos + k]?.getD 0 := by
    obtain ⟨⟨l⟩⟩ := s
    simp only [ByteArray.get!, getElem!_def]
    simp only [List.getElem?_toArray]
    cases l[pos + k]? <;> rfl
  rw [this]

theorem decode_dec (s : ByteArray) (pos : Nat) : Utf8.decode s pos = dec (s.data.toList.drop pos) := by
  rw [Lib.decode_at]
  unfold dec
  rw [List.length_drop, ← Lib.size_eq, ← get_bt, ← get_bt, ← get_bt, ← get_bt]
  rfl

theorem bt_lt (l : List UInt8) (k : Nat) : bt l k < 256 := UInt8.toNat_lt _
theorem dec_ge1 (l : List UInt8) : 1 ≤ (dec l).2 := Lib.decodeN_ge1 _ _ _ _ _
theorem dec_le (l : List UInt8) (h : l ≠ []) : (dec l).2 ≤ l.length := Lib.decodeN_width_le _ _ _ _ _ (List.length_pos_iff.2 h)
theorem dec_rune (l : List UInt8) : (dec l).1 ≤ 1114111 := Lib.decodeN_rune_le _ _ _ _ _ (bt_lt _ _)

theorem dec_shape (l : List UInt8) : (bt l 0 < 128 ∧ dec l = (bt l 0, 1)) ∨ (128 ≤ bt l 0 ∧ 128 ≤ (dec l).1) := by
  have h := Lib.decodeN_shape l.length (bt l 0) (bt l 1) (bt l 2) (bt l 3)
  have hb := bt_lt l 0
  by_cases h0 : bt l 0 < 128
  · left
    refine ⟨h0, ?_⟩
    unfold dec Lib.decodeN
    rw [if_pos h0]
  · right
    refine ⟨by omega, ?_⟩
    unfold dec
    rcases h with ⟨a, e⟩ | ⟨a, b, c, d, e⟩ | ⟨a, b, c, d, f, g, e⟩ | ⟨a, b, c, d, f, g, i, e⟩ | e <;> rw [e] <;> simp only <;> omega

/-- Does no rune begin here? -/
def badL (l : List UInt8) : Bool := (dec l).1 == 65533 && (dec l).2 == 1

theorem isPre3 (l : List UInt8) (a b c : UInt8) : Lib.hasPrefix l [a, b, c] = (decide (l[0]? = some a) && decide (l[1]? = some b) && decide (l[2]? = some c)) := by
  unfold Lib.hasPrefix
  match l with
  | [] => simp
  | [x] => simp [List.isPrefixOf]
  | [x, y] => simp [List.isPrefixOf]
  | x :: y :: z :: r =>
    rw [Bool.eq_iff_iff]
    simp
    constructor
    · rintro ⟨rfl, rfl, rfl⟩; simp
    · rintro ⟨⟨rfl, rfl⟩, rfl⟩; simp

theorem bt_some {l : List UInt8} {k : Nat} {c : UInt8} (h : l[k]? = some c) : bt l k = c.toNat := by simp [bt, h]
theorem some_bt {l : List UInt8} {k n : Nat} (h : bt l k = n) (hn : 0 < n) (c : UInt8) (hc : c.toNat = n) : l[k]? = some c := by
  unfold bt at h
  cases e : l[k]? with
  | none => rw [e] at h; simp at h; omega
  | some d =>
    rw [e] at h
    simp at h
    congr 1
    exact UInt8.toNat_inj.1 (by omega)

/-- What U+FFFD's three bytes tell. -/
theorem err_prefix (l : List UInt8) (he : (dec l).1 = 65533) : Lib.hasPrefix l [239, 191, 189] = !(badL l) := by
  rw [isPre3]
  unfold badL
  rw [he]
  have h := Lib.decodeN_shape l.length (bt l 0) (bt l 1) (bt l 2) (bt l 3)
  have hb := bt_lt l 0
  have hd : dec l = Lib.decodeN l.length (bt l 0) (bt l 1) (bt l 2) (bt l 3) := rfl
  rcases h with ⟨a, e⟩ | ⟨a, b, c, d, e⟩ | ⟨a, b, c, d, f, g, e⟩ | ⟨a, b, c, d, f, g, i, e⟩ | e
  · rw [← hd] at e; rw [e] at he; simp at he; omega
  · rw [← hd] at e; rw [e] at he; simp at he; omega
  · rw [← hd] at e; rw [e] at he ⊢
    simp only at he ⊢
    have h1 := bt_lt l 1
    have h2 := bt_lt l 2
    rw [some_bt (k := 0) (n := 239) (by omega) (by omega) 239 rfl, some_bt (k := 1) (n := 191) (by omega) (by omega) 191 rfl, some_bt (k := 2) (n := 189) (by omega) (by omega) 189 rfl]
    rfl
  · rw [← hd] at e; rw [e] at he; simp at he; omega
  · rw [← hd] at e; rw [e]
    simp only [beq_self_eq_true, Bool.and_self, Bool.not_true, Bool.and_eq_false_iff, decide_eq_false_iff_not]
    by_cases h0 : l[0]? = some 239
    · by_cases h1 : l[1]? = some 191
      · right
        intro h2
        have b0 := bt_some h0
        have b1 := bt_some h1
        have b2 := bt_some h2
        simp at b0 b1 b2
        have hl : 2 < l.length := (List.getElem?_eq_some_iff.1 h2).1
        have : dec l = (65533, 3) := by
          unfold dec Lib.decodeN
          rw [b0, b1, b2]
          simp [hl]
          omega
        rw [e] at this
        cases this
      · exact Or.inl (Or.inr h1)
    · exact Or.inl (Or.inl h0)

/-- May a rune stand at place i of a name? -/
def isNm (i : Nat) (r : Nat) : Bool := r == 95 || Lib.isLetterU r || (decide (0 < i) && Lib.isDigitU r)
/-- Is a rune a digit 0 to 9? -/
def isDg (_ : Nat) (r : Nat) : Bool := decide (48 ≤ r) && decide (r ≤ 57)
def isDb (c : UInt8) : Bool := decide (48 ≤ c.toNat) && decide (c.toNat ≤ 57)

/-- How far the runes of a kind go. -/
def runL (p : Nat → Nat → Bool) : Nat → Nat → List UInt8 → Nat
  | 0, _, _ => 0
  | f + 1, i, l => if l = [] then 0 else if badL l then 0 else if p i (dec l).1 then (dec l).2 + runL p f (i + (dec l).2) (l.drop (dec l).2) else 0

theorem runL_nil (p : Nat → Nat → Bool) (f i : Nat) : runL p f i [] = 0 := by cases f <;> simp [runL]
theorem runL_le (p : Nat → Nat → Bool) : ∀ (f i : Nat) (l : List UInt8), runL p f i l ≤ l.length
  | 0, _, _ => by simp [runL]
  | f + 1, i, l => by
    unfold runL
    split
    · exact Nat.zero_le _
    · rename_i hl
      split
      · exact Nat.zero_le _
      · split
        · have := runL_le p f (i + (dec l).2) (l.drop (dec l).2)
          rw [List.length_drop] at this
          have h1 := dec_le l hl
          omega
        · exact Nat.zero_le _
/-- Enough fuel is enough. -/
theorem runL_fuel (p : Nat → Nat → Bool) : ∀ (f g i : Nat) (l : List UInt8), l.length ≤ f → l.length ≤ g → runL p f i l = runL p g i l
  | 0, g, i, l, hf, _ => by
    have : l = [] := List.eq_nil_of_length_eq_zero (by omega)
    subst this
    rw [runL_nil, runL_nil]
  | f + 1, 0, i, l, _, hg => by
    have : l = [] := List.eq_nil_of_length_eq_zero (by omega)
    subst this
    rw [runL_nil, runL_nil]
  | f + 1, g + 1, i, l, hf, hg => by
    unfold runL
    by_cases hl : l = []
    · rw [if_pos hl, if_pos hl]
    · rw [if_neg hl, if_neg hl]
      have h1 := dec_le l hl
      have h2 := dec_ge1 l
      rw [runL_fuel p f g _ (l.drop (dec l).2) (by rw [List.length_drop]; omega) (by rw [List.length_drop]; omega)]

def nameL (l : List UInt8) : Nat := runL isNm l.length 0 l
def digs (l : List UInt8) : Nat := (l.takeWhile isDb).length

theorem digs_run : ∀ (f i : Nat) (l : List UInt8), l.length ≤ f → runL isDg f i l = digs l
  | 0, i, l, h => by
    have : l = [] := List.eq_nil_of_length_eq_zero (by omega)
    subst this
    rfl
  | f + 1, i, [], h => by rw [runL_nil]; rfl
  | f + 1, i, c :: r, h => by
    unfold runL
    rw [if_neg (by simp)]
    have hc : bt (c :: r) 0 = c.toNat := rfl
    rcases dec_shape (c :: r) with ⟨h0, e⟩ | ⟨h0, e⟩
    · have hb : badL (c :: r) = false := by
        unfold badL
        rw [e]
        simp
        omega
      rw [hb, if_neg (by simp), e]
      simp only [hc]
      have hd : isDg i c.toNat = isDb c := rfl
      rw [hd]
      unfold digs
      rw [List.takeWhile_cons]
      cases hx : isDb c with
      | true =>
        simp only [if_true, List.length_cons, List.drop_succ_cons, List.drop_zero]
        rw [digs_run f (i + 1) r (by simp at h; omega)]
        unfold digs
        omega
      | false => simp
    · have hd : isDg i (dec (c :: r)).1 = false := by
        unfold isDg
        simp
        omega
      rw [hd]
      have hx : isDb c = false := by
        unfold isDb
        simp
        omega
      unfold digs
      rw [List.takeWhile_cons, hx]
      simp

def numL (l : List UInt8) : Nat :=
  if digs l = 0 then 0
  else if (l.drop (digs l)).head? = some 46 ∧ 0 < digs (l.drop (digs l + 1)) then digs l + (1 + digs (l.drop (digs l + 1))) else digs l
def signs : List (List UInt8) := [[124, 124], [38, 38], [60, 61], [61, 61], [33, 61], [62, 61], [43], [45], [42], [47], [60], [62], [33], [63], [58], [44], [59], [61], [40], [41], [91], [93], [123], [125]]
def signIn (l : List UInt8) : List (List UInt8) → Nat
  | [] => 0
  | t :: r => if Lib.hasPrefix l t then t.length else signIn l r
def signL (l : List UInt8) : Nat := signIn l signs
/-- The kind and the length of the token with which a text begins; 0: with none. -/
def wordL (l : List UInt8) : Nat × Nat :=
  if 0 < nameL l then (0, nameL l) else if 0 < numL l then (1, numL l) else if 0 < signL l then (2, signL l) else (0, 0)
def isBl (c : UInt8) : Bool := c == 32 || c == 9 || c == 10 || c == 13
/-- How many bytes of blanks and comments; true: within a comment. -/
def skipB : Bool → List UInt8 → Nat
  | _, [] => 0
  | true, c :: r => if c = 10 then 1 + skipB false r else 1 + skipB true r
  | false, c :: r => if isBl c then 1 + skipB false r else if c = 47 ∧ r.head? = some 47 then 1 + skipB true r else 0
def skipL (l : List UInt8) : Nat := skipB false l
abbrev Tk := Nat × List UInt8 × Nat
abbrev Flt := Nat × Nat × List UInt8
/-- The tokens from a place on, where a token begins or the text ends; n: how many there have been. -/
def toksL : Nat → Nat → Nat → List UInt8 → Except Flt (List Tk)
  | 0, _, _, _ => .ok []
  | f + 1, n, p, l =>
    if l = [] then .ok []
    else if (wordL l).2 = 0 then .error (260, p, l.take (dec l).2)
    else if n = 4096 then .error (3, p, l.take (wordL l).2)
    else match toksL f (n + 1) (p + (wordL l).2 + skipL (l.drop (wordL l).2)) (l.drop ((wordL l).2 + skipL (l.drop (wordL l).2))) with
      | .ok ts => .ok (((wordL l).1, l.take (wordL l).2, p) :: ts)
      | .error e => .error e
def tokensL (l : List UInt8) : Except Flt (List Tk) :=
  if 65536 < l.length then .error (3, 0, []) else toksL l.length 0 (skipL l) (l.drop (skipL l))
end Go.Proofs.YtibnpbfggbbchaaDoor
