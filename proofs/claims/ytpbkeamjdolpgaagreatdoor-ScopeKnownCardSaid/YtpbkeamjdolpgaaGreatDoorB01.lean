/- Plain laws on UTF-8 and on the words of a text, no program in sight. Plain: trees, and what a parser tells of tokens. Small laws on worlds, rows that a call owns, tokens in memory. Trees in memory; what a parser keeps between two calls. -/
import Derived.Lib.OthersKept
import Derived.Lib.IsU
import Derived.Lib.Strings
import Derived.Lib.IndexBytes
import Derived.Lib.DecodeN
import Derived.Lib.MapLaws
import Derived.Lib.TrimU
import Derived.Lib.QuoteLoop
import Derived.WalkKit
import Derived.WalkSpells
import Derived.WalkLawsBesides
import Derived.Deep.LoopGhost
import Derived.Lib.Hide
import Derived.BigQuiet
import Derived.Deep.QuietTactic
import Derived.Outline
import Derived.RegionTactic
import Derived.ChangeAlike
import Derived.OwnWalk
import Derived.IntWalk
namespace Go.Proofs.YtpbkeamjdolpgaaGreatDoor
open Go.RowKit

def bt (l : List UInt8) (k : Nat) : Nat := (l[k]?.getD 0).toNat
/-- The rune with which a list of bytes begins, and its width. -/
def dec (l : List UInt8) : Nat × Nat := Lib.decodeN l.length (bt l 0) (bt l 1) (bt l 2) (bt l 3)

theorem get_bt (s : ByteArray) (pos k : Nat) : (s.get! (pos + k)).toNat = bt (s.data.toList.drop pos) k := by
  unfold bt
  rw [List.getElem?_drop]
  have : s.get! (pos + k) = s.data.toList[pos + k]?.getD 0 := by
    obtain ⟨⟨l⟩⟩ := s
    simp only [ByteArray.get!, getElem!_def]
    simp only [List.getElem?_toArray]
    cases l[pos + k]? <;> rfl
  rw [this]

theorem decode_dec (s : ByteArray) (pos : Nat) : Utf8.decode s pos = dec (s.data.toList.drop pos) := by
  rw [Lib.decode_at]
  unfold dec
  rw [List.length_drop, ← Lib.size_eq, ← get_bt, ← get_bt, ← get_bt, ← get_bt]
  rfl

theorem bt_lt (l : List UInt8) (k : Nat) : bt l k < 256 := UInt8.toNat_lt _
theorem dec_ge1 (l : List UInt8) : 1 ≤ (dec l).2 := Lib.decodeN_ge1 _ _ _ _ _
theorem dec_le (l : List UInt8) (h : l ≠ []) : (dec l).2 ≤ l.length := Lib.decodeN_width_le _ _ _ _ _ (List.length_pos_iff.2 h)
theorem dec_rune (l : List UInt8) : (dec l).1 ≤ 1114111 := Lib.decodeN_rune_le _ _ _ _ _ (bt_lt _ _)

theorem dec_shape (l : List UInt8) : (bt l 0 < 128 ∧ dec l = (bt l 0, 1)) ∨ (128 ≤ bt l 0 ∧ 128 ≤ (dec l).1) := by
  have h := Lib.decodeN_shape l.length (bt l 0) (bt l 1) (bt l 2) (bt l 3)
  have hb := bt_lt l 0
  by_cases h0 : bt l 0 < 128
  · left
    refine ⟨h0, ?_⟩
    unfold dec Lib.decodeN
    rw [if_pos h0]
  · right
    refine ⟨by omega, ?_⟩
    unfold dec
    rcases h with ⟨a, e⟩ | ⟨a, b, c, d, e⟩ | ⟨a, b, c, d, f, g, e⟩ | ⟨a, b, c, d, f, g, i, e⟩ | e <;> rw [e] <;> simp only <;> omega

/-- Does no rune begin here? -/
def badL (l : List UInt8) : Bool := (dec l).1 == 65533 && (dec l).2 == 1

theorem isPre3 (l : List UInt8) (a b c : UInt8) : Lib.hasPrefix l [a, b, c] = (decide (l[0]? = some a) && decide (l[1]? = some b) && decide (l[2]? = some c)) := by
  unfold Lib.hasPrefix
  match l with
  | [] => simp
  | [x] => simp [List.isPrefixOf]
  | [x, y] => simp [List.isPrefixOf]
  | x :: y :: z :: r =>
    rw [Bool.eq_iff_iff]
    simp
    constructor
    · rintro ⟨rfl, rfl, rfl⟩; simp
    · rintro ⟨⟨rfl, rfl⟩, rfl⟩; simp

theorem bt_some {l : List UInt8} {k : Nat} {c : UInt8} (h : l[k]? = some c) : bt l k = c.toNat := by simp [bt, h]
theorem some_bt {l : List UInt8} {k n : Nat} (h : bt l k = n) (hn : 0 < n) (c : UInt8) (hc : c.toNat = n) : l[k]? = some c := by
  unfold bt at h
  cases e : l[k]? with
  | none => rw [e] at h; simp at h; omega
  | some d =>
    rw [e] at h
    simp at h
    congr 1
    exact UInt8.toNat_inj.1 (by omega)

/-- What U+FFFD's three bytes tell. -/
theorem err_prefix (l : List UInt8) (he : (dec l).1 = 65533) : Lib.hasPrefix l [239, 191, 189] = !(badL l) := by
  rw [isPre3]
  unfold badL
  rw [he]
  have h := Lib.decodeN_shape l.length (bt l 0) (bt l 1) (bt l 2) (bt l 3)
  have hb := bt_lt l 0
  have hd : dec l = Lib.decodeN l.length (bt l 0) (bt l 1) (bt l 2) (bt l 3) := rfl
  rcases h with ⟨a, e⟩ | ⟨a, b, c, d, e⟩ | ⟨a, b, c, d, f, g, e⟩ | ⟨a, b, c, d, f, g, i, e⟩ | e
  · rw [← hd] at e; rw [e] at he; simp at he; omega
  · rw [← hd] at e; rw [e] at he; simp at he; omega
  · rw [← hd] at e; rw [e] at he ⊢
    simp only at he ⊢
    have h1 := bt_lt l 1
    have h2 := bt_lt l 2
    rw [some_bt (k := 0) (n := 239) (by omega) (by omega) 239 rfl, some_bt (k := 1) (n := 191) (by omega) (by omega) 191 rfl, some_bt (k := 2) (n := 189) (by omega) (by omega) 189 rfl]
    rfl
  · rw [← hd] at e; rw [e] at he; simp at he; omega
  · rw [← hd] at e; rw [e]
    simp only [beq_self_eq_true, Bool.and_self, Bool.not_true, Bool.and_eq_false_iff, decide_eq_false_iff_not]
    by_cases h0 : l[0]? = some 239
    · by_cases h1 : l[1]? = some 191
      · right
        intro h2
        have b0 := bt_some h0
        have b1 := bt_some h1
        have b2 := bt_some h2
        simp at b0 b1 b2
        have hl : 2 < l.length := (List.getElem?_eq_some_iff.1 h2).1
        have : dec l = (65533, 3) := by
          unfold dec Lib.decodeN
          rw [b0, b1, b2]
          simp [hl]
          omega
        rw [e] at this
        cases this
      · exact Or.inl (Or.inr h1)
    · exact Or.inl (Or.inl h0)

/-- May a rune stand at place i of a name? -/
def isNm (i : Nat) (r : Nat) : Bool := r == 95 || Lib.isLetterU r || (decide (0 < i) && Lib.isDigitU r)
/-- Is a rune a digit 0 to 9? -/
def isDg (_ : Nat) (r : Nat) : Bool := decide (48 ≤ r) && decide (r ≤ 57)
def isDb (c : UInt8) : Bool := decide (48 ≤ c.toNat) && decide (c.toNat ≤ 57)

/-- How far the runes of a kind go. -/
def runL (p : Nat → Nat → Bool) : Nat → Nat → List UInt8 → Nat
  | 0, _, _ => 0
  | f + 1, i, l => if l = [] then 0 else if badL l then 0 else if p i (dec l).1 then (dec l).2 + runL p f (i + (dec l).2) (l.drop (dec l).2) else 0

theorem runL_nil (p : Nat → Nat → Bool) (f i : Nat) : runL p f i [] = 0 := by cases f <;> simp [runL]
theorem runL_le (p : Nat → Nat → Bool) : ∀ (f i : Nat) (l : List UInt8), runL p f i l ≤ l.length
  | 0, _, _ => by simp [runL]
  | f + 1, i, l => by
    unfold runL
    split
    · exact Nat.zero_le _
    · rename_i hl
      split
      · exact Nat.zero_le _
      · split
        · have := runL_le p f (i + (dec l).2) (l.drop (dec l).2)
          rw [List.length_drop] at this
          have h1 := dec_le l hl
          omega
        · exact Nat.zero_le _
/-- Enough fuel is enough. -/
theorem runL_fuel (p : Nat → Nat → Bool) : ∀ (f g i : Nat) (l : List UInt8), l.length ≤ f → l.length ≤ g → runL p f i l = runL p g i l
  | 0, g, i, l, hf, _ => by
    have : l = [] := List.eq_nil_of_length_eq_zero (by omega)
    subst this
    rw [runL_nil, runL_nil]
  | f + 1, 0, i, l, _, hg => by
    have : l = [] := List.eq_nil_of_length_eq_zero (by omega)
    subst this
    rw [runL_nil, runL_nil]
  | f + 1, g + 1, i, l, hf, hg => by
    unfold runL
    by_cases hl : l = []
    · rw [if_pos hl, if_pos hl]
    · rw [if_neg hl, if_neg hl]
      have h1 := dec_le l hl
      have h2 := dec_ge1 l
      rw [runL_fuel p f g _ (l.drop (dec l).2) (by rw [List.length_drop]; omega) (by rw [List.length_drop]; omega)]

def nameL (l : List UInt8) : Nat := runL isNm l.length 0 l
def digs (l : List UInt8) : Nat := (l.takeWhile isDb).length

theorem digs_run : ∀ (f i : Nat) (l : List UInt8), l.length ≤ f → runL isDg f i l = digs l
  | 0, i, l, h => by
    have : l = [] := List.eq_nil_of_length_eq_zero (by omega)
    subst this
    rfl
  | f + 1, i, [], h => by rw [runL_nil]; rfl
  | f + 1, i, c :: r, h => by
    unfold runL
    rw [if_neg (by simp)]
    have hc : bt (c :: r) 0 = c.toNat := rfl
    rcases dec_shape (c :: r) with ⟨h0, e⟩ | ⟨h0, e⟩
    · have hb : badL (c :: r) = false := by
        unfold badL
        rw [e]
        simp
        omega
      rw [hb, if_neg (by simp), e]
      simp only [hc]
      have hd : isDg i c.toNat = isDb c := rfl
      rw [hd]
      unfold digs
      rw [List.takeWhile_cons]
      cases hx : isDb c with
      | true =>
        simp only [if_true, List.length_cons, List.drop_succ_cons, List.drop_zero]
        rw [digs_run f (i + 1) r (by simp at h; omega)]
        unfold digs
        omega
      | false => simp
    · have hd : isDg i (dec (c :: r)).1 = false := by
        unfold isDg
        simp
        omega
      rw [hd]
      have hx : isDb c = false := by
        unfold isDb
        simp
        omega
      unfold digs
      rw [List.takeWhile_cons, hx]
      simp

def numL (l : List UInt8) : Nat :=
  if digs l = 0 then 0
  else if (l.drop (digs l)).head? = some 46 ∧ 0 < digs (l.drop (digs l + 1)) then digs l + (1 + digs (l.drop (digs l + 1))) else digs l
def signs : List (List UInt8) := [[124, 124], [38, 38], [60, 61], [61, 61], [33, 61], [62, 61], [43], [45], [42], [47], [60], [62], [33], [63], [58], [44], [59], [61], [40], [41], [91], [93], [123], [125]]
def signIn (l : List UInt8) : List (List UInt8) → Nat
  | [] => 0
  | t :: r => if Lib.hasPrefix l t then t.length else signIn l r
def signL (l : List UInt8) : Nat := signIn l signs
/-- The kind and the length of the token with which a text begins; 0: with none. -/
def wordL (l : List UInt8) : Nat × Nat :=
  if 0 < nameL l then (0, nameL l) else if 0 < numL l then (1, numL l) else if 0 < signL l then (2, signL l) else (0, 0)
def isBl (c : UInt8) : Bool := c == 32 || c == 9 || c == 10 || c == 13
/-- How many bytes of blanks and comments; true: within a comment. -/
def skipB : Bool → List UInt8 → Nat
  | _, [] => 0
  | true, c :: r => if c = 10 then 1 + skipB false r else 1 + skipB true r
  | false, c :: r => if isBl c then 1 + skipB false r else if c = 47 ∧ r.head? = some 47 then 1 + skipB true r else 0
def skipL (l : List UInt8) : Nat := skipB false l
abbrev Tk := Nat × List UInt8 × Nat
abbrev Flt := Nat × Nat × List UInt8
/-- The tokens from a place on, where a token begins or the text ends; n: how many there have been. -/
def toksL : Nat → Nat → Nat → List UInt8 → Except Flt (List Tk)
  | 0, _, _, _ => .ok []
  | f + 1, n, p, l =>
    if l = [] then .ok []
    else if (wordL l).2 = 0 then .error (260, p, l.take (dec l).2)
    else if n = 4096 then .error (3, p, l.take (wordL l).2)
    else match toksL f (n + 1) (p + (wordL l).2 + skipL (l.drop (wordL l).2)) (l.drop ((wordL l).2 + skipL (l.drop (wordL l).2))) with
      | .ok ts => .ok (((wordL l).1, l.take (wordL l).2, p) :: ts)
      | .error e => .error e
def tokensL (l : List UInt8) : Except Flt (List Tk) :=
  if 65536 < l.length then .error (3, 0, []) else toksL l.length 0 (skipL l) (l.drop (skipL l))
end Go.Proofs.YtpbkeamjdolpgaaGreatDoor
namespace Go.Proofs.YtpbkeamjdolpgaaGreatDoor

/-- A node of a tree: kind, name, what stands below it, place. -/
inductive Nd where
  | mk (kind : Int) (name : List UInt8) (kids : List Nd) (pos : Int)
/-- What a parser tells: out of fuel; the token that can't stand; a thing and where it goes on. -/
inductive Res (A : Type) where
  | out : Res A
  | bad (p : Nat) : Res A
  | ok (a : A) (p : Nat) : Res A
def Res.bind {A B : Type} (x : Res A) (f : A → Nat → Res B) : Res B :=
  match x with
  | .out => .out
  | .bad p => .bad p
  | .ok a p => f a p

def wModule : List UInt8 := [109, 111, 100, 117, 108, 101]
def wFunction : List UInt8 := [102, 117, 110, 99, 116, 105, 111, 110]
def wFor : List UInt8 := [102, 111, 114]
def wIf : List UInt8 := [105, 102]
def wElse : List UInt8 := [101, 108, 115, 101]
/-- Is a name a reserved word? -/
def resv (s : List UInt8) : Bool := decide (s = wModule) || decide (s = wFunction) || decide (s = wFor) || decide (s = wIf) || decide (s = wElse)
/-- The signs of two of a level. -/
def signsK (k : Nat) : List (List UInt8) :=
  if k = 0 then [[124, 124]] else if k = 1 then [[38, 38]] else if k = 2 then [[60], [60, 61], [61, 61], [33, 61], [62, 61], [62]] else if k = 3 then [[43], [45]] else [[42], [47]]

section
variable (ts : List Tk) (L : Nat)

def kindT (p : Nat) : Int := match ts[p]? with | some t => t.1 | none => -1
def textT (p : Nat) : List UInt8 := match ts[p]? with | some t => t.2.1 | none => []
def placeT (p : Nat) : Nat := match ts[p]? with | some t => t.2.2 | none => L
/-- Does a sign, or a reserved word, stand here? -/
def isT (p : Nat) (s : List UInt8) : Bool := decide (textT ts p = s) && (decide (kindT ts p = 2) || (decide (kindT ts p = 0) && resv s))
def namedT (p : Nat) : Bool := decide (kindT ts p = 0) && !resv (textT ts p)
def takeP (s : List UInt8) (p : Nat) : Res Nat := if isT ts p s then .ok (placeT ts L p) (p + 1) else .bad p
def nameP (p : Nat) : Res (List UInt8) := if namedT ts p then .ok (textT ts p) (p + 1) else .bad p
def anyT (p : Nat) (l : List (List UInt8)) : Bool := l.any (isT ts p)

/-- Things with commas between, behind the first one, up to the closing sign. -/
def rowM (one : Nat → Res Nd) : Nat → List UInt8 → List Nd → Nat → Res (List Nd)
  | 0, _, _, _ => .out
  | f + 1, e, acc, q => if isT ts q e then .ok acc (q + 1) else (takeP ts L [44] q).bind fun _ r => (one r).bind fun x r' => rowM one f e (acc ++ [x]) r'
def rowG (one : Nat → Res Nd) (f : Nat) (e : List UInt8) (p : Nat) : Res (List Nd) :=
  if isT ts p e then .ok [] (p + 1) else (one p).bind fun x q => rowM ts L one f e [x] q
/-- A name that isn't reserved, as a node. -/
def nameN (p : Nat) : Res Nd := (nameP ts p).bind fun s q => .ok (.mk 10 s [] (placeT ts L p)) q
def argsO (ex : Nat → Res Nd) (f : Nat) (p : Nat) : Res Nd := (takeP ts L [40] p).bind fun a q => (rowG ts L ex f [41] q).bind fun l r => .ok (.mk 8 [] l a) r
def paramsP (f : Nat) (p : Nat) : Res Nd := (takeP ts L [40] p).bind fun a q => (rowG ts L (nameN ts L) f [41] q).bind fun l r => .ok (.mk 4 [] l a) r
def atomO (ex : Nat → Res Nd) (f : Nat) (p : Nat) : Res Nd :=
  if isT ts p [40] then (ex (p + 1)).bind fun x q => (takeP ts L [41] q).bind fun _ e => .ok x e
  else if isT ts p [91] then (rowG ts L ex f [93] (p + 1)).bind fun l q => .ok (.mk 11 [] l (placeT ts L p)) q
  else if kindT ts p = 1 then .ok (.mk 9 (textT ts p) [] (placeT ts L p)) (p + 1)
  else (nameP ts p).bind fun s q => if isT ts q [40] then (argsO ts L ex f q).bind fun a r => .ok (.mk 13 s [a] (placeT ts L p)) r else .ok (.mk 10 s [] (placeT ts L p)) q
/-- Indices behind a part. -/
def indexL (ex : Nat → Res Nd) : Nat → Nd → Nat → Res Nd
  | 0, _, _ => .out
  | f + 1, x, q => if isT ts q [91] then (ex (q + 1)).bind fun y r => (takeP ts L [93] r).bind fun _ e => indexL ex f (.mk 14 [] [x, y] (placeT ts L q)) e
    else .ok x q
def unaryL (ex : Nat → Res Nd) (F : Nat) : Nat → Nat → Res Nd
  | 0, _ => .out
  | f + 1, p => if isT ts p [45] || isT ts p [33] then (unaryL ex F f (p + 1)).bind fun x q => .ok (.mk 12 (textT ts p) [x] (placeT ts L p)) q
    else (atomO ts L ex F p).bind fun x q => indexL ts L ex F x q
/-- Signs of two of a level, behind the first part. -/
def levelM (tight : Nat → Res Nd) (k : Nat) : Nat → Nd → Nat → Res Nd
  | 0, _, _ => .out
  | f + 1, x, q => if anyT ts q (signsK k) then (tight (q + 1)).bind fun y r =>
      (if k = 2 then .ok (.mk 12 (textT ts q) [x, y] (placeT ts L q)) r else levelM tight k f (.mk 12 (textT ts q) [x, y] (placeT ts L q)) r)
    else .ok x q
def levelO (tight : Nat → Res Nd) (k f p : Nat) : Res Nd := (tight p).bind fun x q => levelM ts L tight k f x q
/-- The levels: 5 is that of the signs of one. -/
def levO (ex : Nat → Res Nd) (f : Nat) : Nat → Nat → Res Nd
  | 0 => unaryL ts L ex f f
  | d + 1 => levelO ts L (levO ex f d) (4 - d) f
def exprO (ex : Nat → Res Nd) (f p : Nat) : Res Nd := (levO ts L ex f 5 p).bind fun x q =>
  if isT ts q [63] then (ex (q + 1)).bind fun y r => (takeP ts L [58] r).bind fun _ r' => (ex r').bind fun z e => .ok (.mk 15 [] [x, y, z] (placeT ts L q)) e
  else .ok x q
def exprP : Nat → Nat → Res Nd
  | 0 => fun _ => .out
  | f + 1 => exprO ts L (exprP f) f

/-- Statements up to the closing brace. -/
def blockL (st : Nat → Res Nd) : Nat → List Nd → Nat → Res (List Nd)
  | 0, _, _ => .out
  | f + 1, acc, q => if isT ts q [125] then .ok acc (q + 1) else (st q).bind fun x r => blockL st f (acc ++ [x]) r
def blockO (st : Nat → Res Nd) (f p : Nat) : Res Nd := (takeP ts L [123] p).bind fun a q => (blockL ts st f [] q).bind fun l r => .ok (.mk 0 [] l a) r
def stmtO (ex st : Nat → Res Nd) (f p : Nat) : Res Nd :=
  if isT ts p wModule then (nameP ts (p + 1)).bind fun s q => (paramsP ts L f q).bind fun x r => (blockO ts L st f r).bind fun y e => .ok (.mk 2 s [x, y] (placeT ts L p)) e
  else if isT ts p wFunction then (nameP ts (p + 1)).bind fun s q => (paramsP ts L f q).bind fun x r => (takeP ts L [61] r).bind fun _ r1 => (ex r1).bind fun y r2 => (takeP ts L [59] r2).bind fun _ e => .ok (.mk 3 s [x, y] (placeT ts L p)) e
  else if isT ts p wFor then (takeP ts L [40] (p + 1)).bind fun _ q => (nameP ts q).bind fun s r => (takeP ts L [61] r).bind fun _ r1 => (ex r1).bind fun x r2 => (takeP ts L [41] r2).bind fun _ r3 => (blockO ts L st f r3).bind fun y e => .ok (.mk 5 s [x, y] (placeT ts L p)) e
  else if isT ts p wIf then (takeP ts L [40] (p + 1)).bind fun _ q => (ex q).bind fun x r => (takeP ts L [41] r).bind fun _ r1 => (blockO ts L st f r1).bind fun y r2 =>
    if isT ts r2 wElse then (blockO ts L st f (r2 + 1)).bind fun z e => .ok (.mk 6 [] [x, y, z] (placeT ts L p)) e else .ok (.mk 6 [] [x, y] (placeT ts L p)) r2
  else (nameP ts p).bind fun s q =>
    if isT ts q [61] then (ex (q + 1)).bind fun x r => (takeP ts L [59] r).bind fun _ e => .ok (.mk 1 s [x] (placeT ts L p)) e
    else (argsO ts L ex f q).bind fun x r => if isT ts r [123] then (blockO ts L st f r).bind fun y e => .ok (.mk 7 s [x, y] (placeT ts L p)) e else (takeP ts L [59] r).bind fun _ e => .ok (.mk 7 s [x] (placeT ts L p)) e
def stmtP (F : Nat) : Nat → Nat → Res Nd
  | 0 => fun _ => .out
  | f + 1 => stmtO ts L (exprP ts L F) (stmtP F f) F
/-- The statements of all tokens. -/
def stmtsP (F : Nat) : Nat → List Nd → Nat → Res (List Nd)
  | 0, _, _ => .out
  | f + 1, acc, q => if ts.length ≤ q then .ok acc q else (stmtP ts L F F q).bind fun x r => stmtsP F f (acc ++ [x]) r
end
end Go.Proofs.YtpbkeamjdolpgaaGreatDoor
namespace Go.Proofs.YtpbkeamjdolpgaaGreatDoor
open Go.RowKit Go.Lib

theorem tr {a b c : World} (h : Below a.heap.size a b) (k : Below b.heap.size b c) : Below a.heap.size a c := h.trans (k.mono h.size)
theorem bdn {B : Nat} {a w : World} (h : Below B a w) (n : Nat) : Below B a (w.drewN n) := h.trans ⟨rfl, rfl, rfl, Nat.le_refl _, fun _ _ => rfl⟩
theorem own_shape {w : World} {base : Nat} {e : TypeId} {size : Nat} {v : Value} {n : Nat} {xs : List Value} (h : w.ownsRow base e size v n xs) : ∃ a c, v = .slice a n c := by
  rcases h.2 with ⟨h1, h2⟩ | ⟨g, cap, cur, h1, _⟩
  · exact ⟨none, 0, by rw [h1, h2]⟩
  · exact ⟨_, _, h1⟩
theorem own_below {w w' : World} {base : Nat} {e : TypeId} {size : Nat} {v : Value} {n : Nat} {xs : List Value} (h : w.ownsRow base e size v n xs) (hb : Below w.heap.size w w') : w'.ownsRow base e size v n xs := by
  refine ⟨h.1, ?_⟩
  rcases h.2 with h2 | ⟨g, cap, cur, h1, h2, h3, h4⟩
  · exact .inl h2
  · refine .inr ⟨g, cap, cur, h1, h2, ?_, h4⟩
    rw [hb.block g ((Array.getElem?_eq_some_iff.1 h3).1)]
    exact h3
theorem cell_three_new (w : World) (a b c : Value) (t : TypeId) : ∀ j u, [a, b, c][j]? = some u → (w.alloc (.cells #[a, b, c] t)).cell? ((⟨w.heap.size, 0, none⟩ : Addr).add j) = some u := by
  intro j u hj
  match j, hj with
  | 0, hj => simp at hj; subst hj; simp [Addr.add]
  | 1, hj => simp at hj; subst hj; simp [Addr.add]
  | 2, hj => simp at hj; subst hj; simp [Addr.add]
  | j + 3, hj => simp at hj
def tkCells (t : Tk) : List Value := [.int .i64 t.1, .string ⟨t.2.1.toArray⟩, .int .i64 t.2.2]
def tkFlat : List Tk → List Value
  | [] => []
  | t :: r => tkCells t ++ tkFlat r
theorem tkFlat_app (a b : List Tk) : tkFlat (a ++ b) = tkFlat a ++ tkFlat b := by
  induction a with
  | nil => rfl
  | cons t r ih => simp [tkFlat, ih]
theorem tkFlat_one (t : Tk) : tkFlat [t] = tkCells t := by simp [tkFlat]
theorem tkFlat_len (a : List Tk) : (tkFlat a).length = a.length * 3 := by
  induction a with
  | nil => rfl
  | cons t r ih => simp [tkFlat, tkCells, ih]; omega
theorem own_some {w : World} {base : Nat} {e : TypeId} {size : Nat} {v : Value} {n : Nat} {xs : List Value} (h : w.ownsRow base e size v n xs) (hn : 0 < n) :
    ∃ g cap, v = .slice (some ⟨g, 0, none⟩) n cap ∧ base ≤ g ∧ g < w.heap.size ∧ (∀ j, j < n * size → w.cell? ⟨g, j, none⟩ = xs[j]?) := by
  rcases h.2 with ⟨_, h2⟩ | ⟨g, cap, cur, h1, h2, h3, h4⟩
  · omega
  · refine ⟨g, cap, h1, h2, (Array.getElem?_eq_some_iff.1 h3).1, ?_⟩
    subst h1
    exact fun j hj => h.cellAt j hj
theorem tkFlat_at : ∀ (ts : List Tk) (i : Nat) (t : Tk), ts[i]? = some t → (tkFlat ts)[i * 3]? = some (.int .i64 t.1) ∧ (tkFlat ts)[i * 3 + 1]? = some (.string ⟨t.2.1.toArray⟩) ∧ (tkFlat ts)[i * 3 + 2]? = some (.int .i64 t.2.2)
  | [], i, t, h => by simp at h
  | u :: r, 0, t, h => by
    simp at h
    subst h
    exact ⟨rfl, rfl, rfl⟩
  | u :: r, i + 1, t, h => by
    have ih := tkFlat_at r i t (by simpa using h)
    have e : ∀ k, (tkFlat (u :: r))[(i + 1) * 3 + k]? = (tkFlat r)[i * 3 + k]? := fun k => by
      show (tkCells u ++ tkFlat r)[(i + 1) * 3 + k]? = _
      rw [List.getElem?_append_right (by simp [tkCells]; omega)]
      congr 1
      simp [tkCells]
      omega
    exact ⟨(e 0).trans ih.1, (e 1).trans ih.2.1, (e 2).trans ih.2.2⟩
/-- The cells of token i of an owned row of tokens, in a later world. -/
theorem tok_cells {w w' : World} {base : Nat} {e : TypeId} {g cap : Nat} {ts : List Tk} (h : w.ownsRow base e 3 (.slice (some ⟨g, 0, none⟩) ts.length cap) ts.length (tkFlat ts)) (hb : Below w.heap.size w w') (hg : g < w.heap.size) {i : Nat} {t : Tk} (ht : ts[i]? = some t) :
    w'.cell? ⟨g, i * 3, none⟩ = some (.int .i64 t.1) ∧ w'.cell? ⟨g, i * 3 + 1, none⟩ = some (.string ⟨t.2.1.toArray⟩) ∧ w'.cell? ⟨g, i * 3 + 2, none⟩ = some (.int .i64 t.2.2) := by
  have hi : i < ts.length := (List.getElem?_eq_some_iff.1 ht).1
  have hf := tkFlat_at ts i t ht
  refine ⟨?_, ?_, ?_⟩
  · rw [hb.cell (p := ⟨g, i * 3, none⟩) hg, h.cellAt _ (by omega)]; exact hf.1
  · rw [hb.cell (p := ⟨g, i * 3 + 1, none⟩) hg, h.cellAt _ (by omega)]; exact hf.2.1
  · rw [hb.cell (p := ⟨g, i * 3 + 2, none⟩) hg, h.cellAt _ (by omega)]; exact hf.2.2
/-- A cell is there behind a new block. -/
theorem al_cell {w : World} {p : Addr} {v : Value} (h : w.cell? p = some v) (o : Obj) : (w.alloc o).cell? p = some v := by
  rw [World.cell?_alloc_lt _ _ p (World.block_lt_of_cell? w p h)]
  exact h
/-- A slice of tokens as a world holds it. -/
def TokRow (w : World) (x : Option Addr) (ts : List Tk) : Prop :=
  ∀ i u, ts[i]? = some u → ∃ g, x = some ⟨g, 0, none⟩ ∧ w.cell? ⟨g, i * 3, none⟩ = some (.int .i64 u.1) ∧ w.cell? ⟨g, i * 3 + 1, none⟩ = some (.string ⟨u.2.1.toArray⟩) ∧ w.cell? ⟨g, i * 3 + 2, none⟩ = some (.int .i64 u.2.2)
theorem TokRow.below {w w' : World} {x : Option Addr} {ts : List Tk} (h : TokRow w x ts) (hb : Below w.heap.size w w') : TokRow w' x ts := by
  intro i u hu
  obtain ⟨g, h1, h2, h3, h4⟩ := h i u hu
  have hg : g < w.heap.size := World.block_lt_of_cell? w _ h2
  exact ⟨g, h1, (hb.cell (p := ⟨g, i * 3, none⟩) hg).trans h2, (hb.cell (p := ⟨g, i * 3 + 1, none⟩) hg).trans h3, (hb.cell (p := ⟨g, i * 3 + 2, none⟩) hg).trans h4⟩
theorem tokRow_own {w : World} {base : Nat} {e : TypeId} {x : Option Addr} {n cap : Nat} {ts : List Tk} (h : w.ownsRow base e 3 (.slice x n cap) ts.length (tkFlat ts)) : TokRow w x ts := by
  intro i u hu
  have hi : i < ts.length := (List.getElem?_eq_some_iff.1 hu).1
  obtain ⟨g, c, h1, _, h2, h3⟩ := own_some h (by omega)
  have hf := tkFlat_at ts i u hu
  cases h1
  exact ⟨g, rfl, (h3 _ (by omega)).trans hf.1, (h3 _ (by omega)).trans hf.2.1, (h3 _ (by omega)).trans hf.2.2⟩
theorem cell_one_new (w : World) (a : Value) (t : TypeId) : ∀ j u, [a][j]? = some u → (w.alloc (.cells #[a] t)).cell? ((⟨w.heap.size, 0, none⟩ : Addr).add j) = some u := by
  intro j u hj
  match j, hj with
  | 0, hj => simp at hj; subst hj; simp [Addr.add]
  | j + 1, hj => simp at hj
theorem own_cap {w : World} {base : Nat} {e : TypeId} {size : Nat} {a : Option Addr} {m c n : Nat} {xs : List Value} (h : w.ownsRow base e size (.slice a m c) n xs) : n ≤ c := by
  rcases h.2 with ⟨h1, h2⟩ | ⟨g, cap, cur, h1, h2, h3, h4⟩
  · omega
  · cases h1
    exact h4.1
end Go.Proofs.YtpbkeamjdolpgaaGreatDoor
namespace Go.Proofs.YtpbkeamjdolpgaaGreatDoor
open Go.RowKit Go.Lib

/-- Of what was there in w only block b may have turned. -/
structure Ow (b : Nat) (w w' : World) : Prop where
  os : w'.os = w.os
  tape : w'.tape = w.tape
  output : w'.output = w.output
  size : w.heap.size ≤ w'.heap.size
  block : ∀ k, k < w.heap.size → k ≠ b → w'.heap[k]? = w.heap[k]?
theorem Ow.refl (b : Nat) (w : World) : Ow b w w := ⟨rfl, rfl, rfl, Nat.le_refl _, fun _ _ _ => rfl⟩
theorem Ow.trans {b : Nat} {w w1 w2 : World} (h : Ow b w w1) (k : Ow b w1 w2) : Ow b w w2 :=
  ⟨k.os.trans h.os, k.tape.trans h.tape, k.output.trans h.output, Nat.le_trans h.size k.size, fun i hi hn => (k.block i (Nat.lt_of_lt_of_le hi h.size) hn).trans (h.block i hi hn)⟩
theorem Ow.of_below {b : Nat} {w w' : World} (h : Below w.heap.size w w') : Ow b w w' := ⟨h.os, h.tape, h.output, h.size, fun k hk _ => h.block k hk⟩
theorem Ow.below {b : Nat} {w w1 w2 : World} (h : Ow b w w1) (k : Below w1.heap.size w1 w2) : Ow b w w2 := h.trans (Ow.of_below k)
theorem Ow.drew {b : Nat} {w w1 : World} (h : Ow b w w1) : Ow b w w1.drew := ⟨h.os, h.tape, h.output, h.size, h.block⟩
theorem Ow.drewN {b : Nat} {w w1 : World} (h : Ow b w w1) (n : Nat) : Ow b w (w1.drewN n) := ⟨h.os, h.tape, h.output, h.size, h.block⟩
theorem Ow.alloc {b : Nat} {w w1 : World} (h : Ow b w w1) (o : Obj) : Ow b w (w1.alloc o) := h.below ((Below.refl _ _).alloc (Nat.le_refl _) _)
theorem Ow.setCell {b : Nat} {w w1 : World} (h : Ow b w w1) {a : Addr} (ha : a.block = b ∨ w.heap.size ≤ a.block) (u : Value) : Ow b w (w1.setCell a u) :=
  ⟨h.os, h.tape, h.output, by have := h.size; simpa [World.setCell] using this, fun k hk hn => by
    refine (Below.heap_setCell w1 a u k ?_).trans (h.block k hk hn)
    rcases ha with ha | ha
    · omega
    · omega⟩
theorem Ow.grown {b : Nat} {w w1 w2 : World} {row : Option Nat} (h : Ow b w w1) (hg : w1.grownBy w2 row) (hr : ∀ k, row = some k → w.heap.size ≤ k) : Ow b w w2 :=
  ⟨hg.os.trans h.os, hg.tape.trans h.tape, hg.output.trans h.output, Nat.le_trans h.size hg.size, fun k hk hn => (hg.block k (Nat.lt_of_lt_of_le hk h.size) (fun e => by have := hr k e.symm; omega)).trans (h.block k hk hn)⟩
theorem Ow.cell {b : Nat} {w w' : World} (h : Ow b w w') {p : Addr} {v : Value} (hn : p.block ≠ b) (hc : w.cell? p = some v) : w'.cell? p = some v :=
  (World.cell?_of_block (h.block p.block (World.block_lt_of_cell? w p hc) hn)).trans hc
theorem Ow.toBelow {b : Nat} {w w' : World} (h : Ow b w w') {B : Nat} (hB : B ≤ b) (hB2 : B ≤ w.heap.size) : Below B w w' :=
  ⟨h.os, h.tape, h.output, h.size, fun k hk => h.block k (by omega) (by omega)⟩

/-- A block that is let in and not frozen; o: where a node may begin. -/
structure OkB (w : World) (ok : Nat → Prop) (b o : Nat) : Prop where
  ok : ok b
  fr : ∀ q, w.frozen? ⟨b, q, none⟩ = false
  al : o % 4 = 0
/-- A capacity: what is no less than n. -/
abbrev Cp (n : Nat) : Type := {c : Nat // n ≤ c}
mutual
/-- A node lies at a place, its parts in blocks that are let in. -/
def NdAt (w : World) (ok : Nat → Prop) : Nd → Nat → Nat → Prop
  | .mk k n kids p, b, o => OkB w ok b o ∧ w.cell? ⟨b, o, none⟩ = some (.int .i64 k) ∧ w.cell? ⟨b, o + 1, none⟩ = some (.string ⟨n.toArray⟩) ∧ w.cell? ⟨b, o + 3, none⟩ = some (.int .i64 p) ∧
      ∃ y, ∃ c : Cp kids.length, w.cell? ⟨b, o + 2, none⟩ = some (.slice y kids.length c) ∧ NdRow w ok kids y
/-- Nodes one after the other. -/
def NdRow (w : World) (ok : Nat → Prop) : List Nd → Option Addr → Prop
  | [], _ => True
  | x :: r, y => ∃ b o, y = some ⟨b, o, none⟩ ∧ NdAt w ok x b o ∧ NdRow w ok r (some ⟨b, o + 4, none⟩)
end

mutual
theorem NdAt.mono {w w' : World} {ok ok' : Nat → Prop} (hk : ∀ k, ok k → k < w.heap.size → ok' k) (hw : ∀ k, ok k → k < w.heap.size → w'.heap[k]? = w.heap[k]?) : ∀ (x : Nd) (b o : Nat), NdAt w ok x b o → NdAt w' ok' x b o
  | .mk k n kids p, b, o, h => by
    obtain ⟨h0, h1, h2, h3, y, c, h4, h5⟩ := h
    have hb : b < w.heap.size := World.block_lt_of_cell? w _ h1
    have e : ∀ q, w'.cell? ⟨b, q, none⟩ = w.cell? ⟨b, q, none⟩ := fun q => World.cell?_of_block (hw b h0.ok hb)
    exact ⟨⟨hk b h0.ok hb, fun q => (World.frozen?_of_block (a := ⟨b, q, none⟩) (hw b h0.ok hb)).trans (h0.fr q), h0.al⟩, (e _).trans h1, (e _).trans h2, (e _).trans h3, y, c, (e _).trans h4, NdRow.mono hk hw kids y h5⟩
theorem NdRow.mono {w w' : World} {ok ok' : Nat → Prop} (hk : ∀ k, ok k → k < w.heap.size → ok' k) (hw : ∀ k, ok k → k < w.heap.size → w'.heap[k]? = w.heap[k]?) : ∀ (l : List Nd) (y : Option Addr), NdRow w ok l y → NdRow w' ok' l y
  | [], _, _ => trivial
  | x :: r, y, h => by
    obtain ⟨b, o, rfl, h1, h2⟩ := h
    exact ⟨b, o, rfl, NdAt.mono hk hw x b o h1, NdRow.mono hk hw r _ h2⟩
end
theorem NdRow.wide {w : World} {ok ok' : Nat → Prop} {l : List Nd} {y : Option Addr} (h : NdRow w ok l y) (hk : ∀ k, ok k → k < w.heap.size → ok' k) : NdRow w ok' l y := NdRow.mono hk (fun _ _ _ => rfl) l y h
theorem NdRow.below {w w' : World} {ok : Nat → Prop} {l : List Nd} {y : Option Addr} (h : NdRow w ok l y) (hb : Below w.heap.size w w') : NdRow w' ok l y := NdRow.mono (fun _ h _ => h) (fun k _ hk => hb.block k hk) l y h
theorem NdRow.ow {w w' : World} {ok : Nat → Prop} {l : List Nd} {y : Option Addr} {b : Nat} (h : NdRow w ok l y) (hb : Ow b w w') (hn : ∀ k, ok k → k ≠ b) : NdRow w' ok l y := NdRow.mono (fun _ h _ => h) (fun k h1 hk => hb.block k hk (hn k h1)) l y h
theorem NdRow.at_ {w : World} {ok : Nat → Prop} : ∀ {l : List Nd} {y : Option Addr} {i : Nat} {x : Nd}, NdRow w ok l y → l[i]? = some x → ∃ b o, y = some ⟨b, o, none⟩ ∧ NdAt w ok x b (o + i * 4)
  | [], _, i, x, _, hi => by simp at hi
  | u :: r, y, 0, x, h, hi => by
    obtain ⟨b, o, rfl, h1, h2⟩ := h
    simp at hi
    subst hi
    exact ⟨b, o, rfl, by simpa using h1⟩
  | u :: r, y, i + 1, x, h, hi => by
    obtain ⟨b, o, rfl, h1, h2⟩ := h
    obtain ⟨b', o', h3, h4⟩ := NdRow.at_ (i := i) h2 (by simpa using hi)
    cases h3
    refine ⟨b, o, rfl, ?_⟩
    rw [show o + (i + 1) * 4 = o + 4 + i * 4 by omega]
    exact h4

/-- The cells of a node. -/
def NdCells (w : World) (ok : Nat → Prop) : Nd → List Value → Prop
  | .mk k n kids p, xs => ∃ y, ∃ c : Cp kids.length, xs = [.int .i64 k, .string ⟨n.toArray⟩, .slice y kids.length c, .int .i64 p] ∧ NdRow w ok kids y
/-- A node as a value. -/
def NdVal (w : World) (ok : Nat → Prop) : Nd → Value → Prop
  | .mk k n kids p, v => ∃ y, ∃ c : Cp kids.length, v = .agg #[.int .i64 k, .string ⟨n.toArray⟩, .slice y kids.length c, .int .i64 p] ∧ NdRow w ok kids y
theorem NdVal.mono {w w' : World} {ok ok' : Nat → Prop} {x : Nd} {v : Value} (h : NdVal w ok x v) (hk : ∀ k, ok k → k < w.heap.size → ok' k) (hw : ∀ k, ok k → k < w.heap.size → w'.heap[k]? = w.heap[k]?) : NdVal w' ok' x v := by
  obtain ⟨k, n, kids, p⟩ := x
  obtain ⟨y, c, rfl, h1⟩ := h
  exact ⟨y, c, rfl, NdRow.mono hk hw _ _ h1⟩
theorem NdAt.val {w : World} {ok : Nat → Prop} {x : Nd} {b o : Nat} (h : NdAt w ok x b o) : ∃ k n y m, ∃ c : Cp (List.length m), ∃ p, x = .mk k n m p ∧ w.cell? ⟨b, o, none⟩ = some (.int .i64 k) ∧ w.cell? ⟨b, o + 1, none⟩ = some (.string ⟨n.toArray⟩) ∧ w.cell? ⟨b, o + 2, none⟩ = some (.slice y m.length c) ∧ w.cell? ⟨b, o + 3, none⟩ = some (.int .i64 p) ∧ NdRow w ok m y := by
  obtain ⟨k, n, kids, p⟩ := x
  obtain ⟨_, h1, h2, h3, y, c, h4, h5⟩ := h
  exact ⟨k, n, y, kids, c, p, rfl, h1, h2, h4, h3, h5⟩

/-- The cells of a row of nodes. -/
def NFlat (w : World) (ok : Nat → Prop) : List Nd → List Value → Prop
  | [], xs => xs = []
  | x :: r, xs => ∃ a t, xs = a ++ t ∧ NdCells w ok x a ∧ NFlat w ok r t
theorem NdCells.len {w : World} {ok : Nat → Prop} {x : Nd} {a : List Value} (h : NdCells w ok x a) : a.length = 4 := by
  obtain ⟨k, n, kids, p⟩ := x
  obtain ⟨y, c, rfl, _⟩ := h
  rfl
theorem NdCells.mono {w w' : World} {ok ok' : Nat → Prop} {x : Nd} {v : List Value} (h : NdCells w ok x v) (hk : ∀ k, ok k → k < w.heap.size → ok' k) (hw : ∀ k, ok k → k < w.heap.size → w'.heap[k]? = w.heap[k]?) : NdCells w' ok' x v := by
  obtain ⟨k, n, kids, p⟩ := x
  obtain ⟨y, c, rfl, h1⟩ := h
  exact ⟨y, c, rfl, NdRow.mono hk hw _ _ h1⟩
theorem NFlat.mono {w w' : World} {ok ok' : Nat → Prop} (hk : ∀ k, ok k → k < w.heap.size → ok' k) (hw : ∀ k, ok k → k < w.heap.size → w'.heap[k]? = w.heap[k]?) : ∀ {l : List Nd} {xs : List Value}, NFlat w ok l xs → NFlat w' ok' l xs
  | [], _, h => h
  | x :: r, _, h => by
    obtain ⟨a, t, rfl, h1, h2⟩ := h
    exact ⟨a, t, rfl, h1.mono hk hw, NFlat.mono hk hw h2⟩
theorem NFlat.app {w : World} {ok : Nat → Prop} {x : Nd} {a : List Value} (ha : NdCells w ok x a) : ∀ {l : List Nd} {xs : List Value}, NFlat w ok l xs → NFlat w ok (l ++ [x]) (xs ++ a)
  | [], xs, h => by
    obtain rfl : xs = [] := h
    exact ⟨a, [], by simp, ha, rfl⟩
  | u :: r, _, h => by
    obtain ⟨b, t, rfl, h1, h2⟩ := h
    exact ⟨b, t ++ a, by simp, h1, NFlat.app ha h2⟩
theorem NFlat.one {w : World} {ok : Nat → Prop} {x : Nd} {a : List Value} (ha : NdCells w ok x a) : NFlat w ok [x] a := ⟨a, [], by simp, ha, rfl⟩
/-- What lies in memory as a row's cells is a row of nodes. -/
theorem NFlat.row {w : World} {ok : Nat → Prop} {b : Nat} (hb : ok b) (hf : ∀ q, w.frozen? ⟨b, q, none⟩ = false) : ∀ {l : List Nd} {xs : List Value} (o : Nat), o % 4 = 0 → NFlat w ok l xs → (∀ j u, xs[j]? = some u → w.cell? ⟨b, o + j, none⟩ = some u) → NdRow w ok l (some ⟨b, o, none⟩)
  | [], _, _, _, _, _ => trivial
  | x :: r, xs, o, ho, h, hc => by
    obtain ⟨a, t, rfl, h1, h2⟩ := h
    have hl := h1.len
    refine ⟨b, o, rfl, ?_, NFlat.row hb hf (o + 4) (by omega) h2 fun j u hj => ?_⟩
    · obtain ⟨k, n, kids, p⟩ := x
      obtain ⟨y, c, rfl, h3⟩ := h1
      exact ⟨⟨hb, hf, ho⟩, hc 0 _ rfl, hc 1 _ rfl, hc 3 _ rfl, y, c, hc 2 _ rfl, h3⟩
    · have := hc (4 + j) u (by rw [List.getElem?_append_right (by omega), hl, Nat.add_sub_cancel_left]; exact hj)
      rwa [← Nat.add_assoc] at this

/-- A row of nodes of the call's own, in a block from B on. -/
def RowOwn (w : World) (B : Nat) (v : Value) (l : List Nd) : Prop :=
  ∃ xs, w.ownsRow B 53 4 v l.length xs ∧ NFlat w (fun k => B ≤ k ∧ some k ≠ v.ownBlock) l xs
theorem RowOwn.nil (w : World) (B : Nat) : RowOwn w B (.slice none 0 0) [] := ⟨[], World.ownsRow_nil _ _ _ _, rfl⟩
theorem RowOwn.ow {w w' : World} {B b : Nat} {v : Value} {l : List Nd} (h : RowOwn w B v l) (hw : Ow b w w') (hb : b < B) : RowOwn w' B v l := by
  obtain ⟨xs, h1, h2⟩ := h
  refine ⟨xs, ⟨h1.1, ?_⟩, NFlat.mono (fun _ h _ => h) (fun k hk hlt => hw.block k hlt (by omega)) h2⟩
  rcases h1.2 with h3 | ⟨g, cap, cur, h4, h5, h6, h7⟩
  · exact .inl h3
  · refine .inr ⟨g, cap, cur, h4, h5, ?_, h7⟩
    rw [hw.block g ((Array.getElem?_eq_some_iff.1 h6).1) (by omega)]
    exact h6
theorem RowOwn.below {w w' : World} {B : Nat} {v : Value} {l : List Nd} (h : RowOwn w B v l) (hw : Below w.heap.size w w') : RowOwn w' B v l := by
  obtain ⟨xs, h1, h2⟩ := h
  exact ⟨xs, own_below h1 hw, NFlat.mono (fun _ h _ => h) (fun k hk hlt => hw.block k hlt) h2⟩
theorem RowOwn.shape {w : World} {B : Nat} {v : Value} {l : List Nd} (h : RowOwn w B v l) : ∃ a c, v = .slice a l.length c ∧ l.length ≤ c ∧ NdRow w (fun k => B ≤ k) l a := by
  obtain ⟨xs, h1, h2⟩ := h
  rcases h1.2 with ⟨h3, h4⟩ | ⟨g, cap, cur, h4, h5, h6, h7, h8, h9, h10⟩
  · have hl : l = [] := List.length_eq_zero_iff.1 h4
    subst hl
    exact ⟨none, 0, h3, Nat.le_refl _, trivial⟩
  · refine ⟨some ⟨g, 0, none⟩, cap, h4, h7, ?_⟩
    have h2' := NFlat.mono (w' := w) (ok' := fun k => B ≤ k) (fun k hk _ => hk.1) (fun _ _ _ => rfl) h2
    refine NFlat.row (b := g) h5 (fun q => by simp [World.frozen?, h6]) 0 rfl h2' fun j u hj => ?_
    have := h1.cells (g := g) (by rw [h4]; rfl) j u hj
    simpa [Addr.add_lit] using this

/-- What append to an own row leaves, and where the row lies then. -/
theorem run_append_fresh {P : Program} (w : World) (base : Nat) (t ty e : TypeId) (i : TypeInfo) (z : Value) (size bytes : Nat) (ht : P.underlying t = some (.slice e)) (hi : P.info? e = some i) (hz : i.zero = some z)
    (hsize : i.size = size) (hby : i.bytes = bytes) (hzs : z.cells.size = size) (hsz : 0 < size)
    (v : Value) (n : Nat) (xs : List Value) (hown : w.ownsRow base e size v n xs)
    (a : Addr) (m c : Nat) (news : List Value) (hl : news.length = m * size) (hnews : ∀ j u, news[j]? = some u → w.cell? (a.add j) = some u) (h1 : ∀ u ∈ news, u.oneCell' = true)
    (h63 : n + m ≤ maxLen) (hbytes : (n + m) * bytes ≤ 140737488355328) (hbase : base ≤ w.heap.size) :
    ∃ v' w', (Builtin.append_ #[t, t] ty #[v, .slice (some a) m c]).run P w = .ok v' w' ∧ w'.ownsRow base e size v' (n + m) (xs ++ news) ∧ w.grownBy w' v.ownBlock ∧
      (v'.ownBlock = v.ownBlock ∨ ∀ k, v'.ownBlock = some k → w.heap.size ≤ k) := by
  obtain ⟨v', w', hr, h2, h3, h4⟩ := run_append_own w base t ty e i z size bytes ht hi hz hsize hby hzs hsz v n xs hown a m c news hl hnews h1 h63 hbytes hbase
  refine ⟨v', w', hr, h2, h3, ?_⟩
  rcases hown.2 with ⟨rfl, rfl⟩ | ⟨g, cap, cur, rfl, hbg, hg, hnc, hcm, hcs, htake⟩
  · have hx : xs = [] := List.eq_nil_of_length_eq_zero (by simpa using hown.1)
    subst hx
    obtain ⟨v2, w2, hr2, k2, k3, k4⟩ := run_append_own w w.heap.size t ty e i z size bytes ht hi hz hsize hby hzs hsz (.slice none 0 0) 0 [] (World.ownsRow_nil _ _ _ _) a m c news hl hnews h1 h63 hbytes (Nat.le_refl _)
    rw [hr] at hr2
    simp only [Result.ok.injEq] at hr2
    obtain ⟨rfl, rfl⟩ := hr2
    exact .inr fun k hk => (k2.lt k hk).1
  · by_cases hroom : n + m ≤ cap
    · obtain ⟨w2, hr2, k1, k2⟩ := run_append_fits (P := P) w base t ty e i size ht hi hsize g n cap xs hown a m c news hl hnews h1 hroom
      rw [hr] at hr2
      simp only [Result.ok.injEq] at hr2
      obtain ⟨rfl, rfl⟩ := hr2
      exact .inl rfl
    · subst hsize
      subst hby
      have holds : ∀ j u, xs[j]? = some u → w.cell? ((⟨g, 0, none⟩ : Addr).add j) = some u := hown.cells (g := g) rfl
      have hr2 := run_append_grow (P := P) w t ty e i z ht hi hz ⟨g, 0, none⟩ n cap xs hown.1 holds a m c news hl hnews (by omega) (by simp only [maxLen] at h63; omega) (growslice_fits (by omega) hbytes)
      rw [hr] at hr2
      simp only [Result.ok.injEq] at hr2
      obtain ⟨rfl, rfl⟩ := hr2
      refine .inr fun k hk => ?_
      simp [Value.ownBlock] at hk
      omega
theorem wpList_append_fresh {P : Program} (w : World) {ops : Array Oper} {rest : List Oper} {o : Oper} {a : Act} {Q : Exit → Act → World → Prop} (hgd : o.guard = none) (s x : Operand) (t : TypeId)
    (ho : o.op = .call { callee := .builtin .append, args := #[s, x], argTypes := #[t, t] })
    (base : Nat) (e : TypeId) (i : TypeInfo) (z : Value) (size bytes : Nat) (ht : P.underlying t = some (.slice e)) (hi : P.info? e = some i) (hz : i.zero = some z)
    (hsize : i.size = size) (hby : i.bytes = bytes) (hzs : z.cells.size = size) (hsz : 0 < size)
    (v : Value) (n : Nat) (xs : List Value) (hs : a.eval s = v) (hown : w.ownsRow base e size v n xs)
    (ad : Addr) (m c : Nat) (news : List Value) (hx : a.eval x = .slice (some ad) m c) (hl : news.length = m * size) (hnews : ∀ j u, news[j]? = some u → w.cell? (ad.add j) = some u) (h1 : ∀ u ∈ news, u.oneCell' = true)
    (h63 : n + m ≤ maxLen) (hbytes : (n + m) * bytes ≤ 140737488355328) (hbase : base ≤ w.heap.size)
    (h : ∀ v' w', w'.ownsRow base e size v' (n + m) (xs ++ news) → w.grownBy w' v.ownBlock → (v'.ownBlock = v.ownBlock ∨ ∀ k, v'.ownBlock = some k → w.heap.size ≤ k) → wpList P ops Q rest (a.put o.dst v') w') : wpList P ops Q (o :: rest) a w :=
  wpList_plain hgd fun _ hK => by
    obtain ⟨v', w', hr, h2, h3, h4⟩ := run_append_fresh (P := P) w base t o.type e i z size bytes ht hi hz hsize hby hzs hsz v n xs hown ad m c news hl hnews h1 h63 hbytes hbase
    unfold Oper.wp execOp
    simp only [ho, resolve, invoke, builtin, Sem.run_bind, Sem.run_pure, Result.andThen_ok, List.map_toArray, List.map_cons, List.map_nil, hs, hx, hr]
    exact hK _ _ (h v' w' h2 h3 h4)
/-- One node more. -/
theorem RowOwn.snoc {w w' : World} {B : Nat} {v v' : Value} {l : List Nd} {x : Nd} {a xs : List Value} (hf : NFlat w (fun k => B ≤ k ∧ some k ≠ v.ownBlock) l xs) (ha : NdCells w (fun k => B ≤ k ∧ some k ≠ v.ownBlock) x a)
    (h2 : w'.ownsRow B 53 4 v' (l.length + 1) (xs ++ a)) (h3 : w.grownBy w' v.ownBlock) (h4 : v'.ownBlock = v.ownBlock ∨ ∀ k, v'.ownBlock = some k → w.heap.size ≤ k) : RowOwn w' B v' (l ++ [x]) := by
  refine ⟨xs ++ a, by simpa using h2, NFlat.mono (fun k hk hlt => ⟨hk.1, ?_⟩) (fun k hk hlt => h3.block k hlt hk.2) (NFlat.app ha hf)⟩
  rcases h4 with h4 | h4
  · rw [h4]; exact hk.2
  · intro e
    have := h4 k e.symm
    omega

/-- What a parser goes through. -/
structure Ctx where
  s : ByteArray
  ts : List Tk
  x : Option Addr
  c : Nat
  pb : Nat
/-- The parser lies in its block, at token p. -/
structure PSt (C : Ctx) (w : World) (p : Nat) : Prop where
  blk : w.heap[C.pb]? = some (.cells #[.string C.s, .slice C.x C.ts.length C.c, .int .i64 p] 96 (0, 0))
  row : TokRow w C.x C.ts
  xne : ∀ g, C.x = some ⟨g, 0, none⟩ → g ≠ C.pb
  le : p ≤ C.ts.length
  len : C.ts.length ≤ 4096
theorem PSt.lt {C : Ctx} {w : World} {p : Nat} (h : PSt C w p) : C.pb < w.heap.size := (Array.getElem?_eq_some_iff.1 h.blk).1
theorem PSt.below {C : Ctx} {w w' : World} {p : Nat} (h : PSt C w p) (hb : Below w.heap.size w w') : PSt C w' p :=
  ⟨(hb.block _ h.lt).trans h.blk, h.row.below hb, h.xne, h.le, h.len⟩
theorem PSt.cells {C : Ctx} {w : World} {p : Nat} (h : PSt C w p) : w.cell? ⟨C.pb, 0, none⟩ = some (.string C.s) ∧ w.cell? ⟨C.pb, 1, none⟩ = some (.slice C.x C.ts.length C.c) ∧ w.cell? ⟨C.pb, 2, none⟩ = some (.int .i64 p) ∧ w.frozen? ⟨C.pb, 2, none⟩ = false := by
  have hb := h.blk
  refine ⟨?_, ?_, ?_, ?_⟩ <;> simp [World.cell?, World.frozen?, hb]
theorem PSt.step {C : Ctx} {w : World} {p : Nat} (h : PSt C w p) {q : Nat} (hq : q ≤ C.ts.length) : PSt C (w.setCell ⟨C.pb, 2, none⟩ (.int .i64 q)) q := by
  refine ⟨?_, ?_, h.xne, hq, h.len⟩
  · have hb := h.blk
    simp only [World.setCell, Array.getElem?_modify, if_true, hb]
    rfl
  · intro i u hu
    obtain ⟨g, h1, h2, h3, h4⟩ := h.row i u hu
    have hg := h.xne g h1
    refine ⟨g, h1, ?_, ?_, ?_⟩
    · rw [World.cell?_of_block (Below.heap_setCell w _ _ _ hg)]; exact h2
    · rw [World.cell?_of_block (Below.heap_setCell w _ _ _ hg)]; exact h3
    · rw [World.cell?_of_block (Below.heap_setCell w _ _ _ hg)]; exact h4
/-- What lay at the start keeps its place. -/
theorem PSt.keep {C : Ctx} {w w1 w2 : World} {p q : Nat} (h0 : PSt C w p) (h : PSt C w1 q) (hk : ∀ k, k < w.heap.size → w2.heap[k]? = w1.heap[k]?) : PSt C w2 q := by
  refine ⟨(hk _ h0.lt).trans h.blk, ?_, h.xne, h.le, h.len⟩
  intro i u hu
  obtain ⟨g, h1, h2, _, _⟩ := h0.row i u hu
  obtain ⟨g', h1', h2', h3', h4'⟩ := h.row i u hu
  rw [h1] at h1'
  cases h1'
  have hg : g < w.heap.size := World.block_lt_of_cell? w _ h2
  exact ⟨g, h1, (World.cell?_of_block (hk g hg)).trans h2', (World.cell?_of_block (hk g hg)).trans h3', (World.cell?_of_block (hk g hg)).trans h4'⟩
/-- A panic with a fault: the code, the place, the word. -/
def Dead (w w' : World) (f : Flt) (e : Ending) : Prop :=
  ∃ b, w.heap.size ≤ b ∧ e = .panicked [{ v := .iface 23 (.pointer (some ⟨b, 0, none⟩)), recovered := false }] ∧ w'.heap[b]? = some (.cells #[.int .i64 f.1, .int .i64 f.2.1, .string ⟨f.2.2.toArray⟩] 61 (0, 0))
/-- What a parser's method hands back, as the plain parser says. -/
def Fin {A : Type} (C : Ctx) (w : World) (R : Res A) (ret : A → World → Value → Prop) (e : Ending) (w' : World) : Prop :=
  (∃ a q v, R = .ok a q ∧ e = .returned v ∧ ret a w' v ∧ PSt C w' q ∧ Ow C.pb w w') ∨
  (∃ q, R = .bad q ∧ Dead w w' (270, placeT C.ts C.s.size q, textT C.ts q) e ∧ Ow C.pb w w')
theorem Fin.dead {A : Type} {C : Ctx} {w w1 w' : World} {R : Res A} {ret : A → World → Value → Prop} {e : Ending} {q : Nat} (h : R = .bad q) (hd : Dead w1 w' (270, placeT C.ts C.s.size q, textT C.ts q) e) (h1 : Ow C.pb w w1) (h2 : Ow C.pb w w') : Fin C w R ret e w' := by
  obtain ⟨b, h3, h4, h5⟩ := hd
  exact .inr ⟨q, h, ⟨b, Nat.le_trans h1.size h3, h4, h5⟩, h2⟩
end Go.Proofs.YtpbkeamjdolpgaaGreatDoor
