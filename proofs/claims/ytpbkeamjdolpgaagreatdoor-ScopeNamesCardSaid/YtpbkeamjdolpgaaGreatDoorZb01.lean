/- Plain laws on UTF-8 and on the words of a text, no program in sight. Plain: trees, and what a parser tells of tokens. Small laws on worlds, rows that a call owns, tokens in memory. Trees in memory; what a parser keeps between two calls. The walks of strings.Builder inside the printer. The walk of (*strings.Builder).String inside the printer. Plain: which trees are right, and how they are told as text. The walks of the parser's small methods. The walks of slices.Index, slices.Contains at strings, and of tree.reserved. Plain: with fuel enough the parser always comes to an end. The walks of the parser's methods that ask, and that give up. The walk of the parser's rows. The walks of the parser's names, parameters and arguments. The walk of tree.deep. The walks of tree.all and of what it calls: a test of all nodes of a row. The walks of slices.IndexFunc, slices.ContainsFunc with the parser's own test. The walks of tree.signs, allSigns, slices.Clone, slices.Backward. Plain: what Parse tells of a text; how many nodes there are. Plain: how much a tree weighs: its nodes, and the bytes of their names. The walks of lexer.run and of the two closures that it is called with. The walks of lexer.word, lexer.skip, lexer.Name. lexer.signs hands its 24 signs over. The walk of lexer.word. The walks of lexer.skip and lexer.Name. The walks of lexer.Name, of the reference's first, digit, name. The walk of the reference's number. The walk of the reference's sign. The walks of the reference's skip. The walks of lexer.Name, of the reference's word, Name, Is. The walk of lexer.Tokens. Tokens at any size. The walks of tree.level, tree.plain. -/
import Derived.Lib.OthersKept
import Derived.Lib.IsU
import Derived.Lib.Strings
import Derived.Lib.IndexBytes
import Derived.Lib.DecodeN
import Derived.Lib.MapLaws
import Derived.Lib.TrimU
import Derived.Lib.QuoteLoop
import Derived.WalkKit
import Derived.WalkSpells
import Derived.WalkLawsBesides
import Derived.Deep.LoopGhost
import Derived.Lib.Hide
import Derived.BigQuiet
import Derived.Deep.QuietTactic
import Derived.Outline
import Derived.RegionTactic
import Derived.ChangeAlike
import Derived.OwnWalk
import Derived.IntWalk
import Derived.Test.YtpbkeamjdolpgaaGreatDoorProg
import Derived.Lib.Builder
import Derived.OneCell
import Derived.Shelf.Strings.Builder1
import Derived.Shelf.Abstract
import Derived.LoopTactic
import Derived.Test.YtpbkeamjdolpgaaGreatDoorShelf
import Derived.Deep.WholeRow
import Derived.Great.BuildSlice
namespace Go.Proofs.YtpbkeamjdolpgaaGreatDoor
open Go.RowKit

def bt (l : List UInt8) (k : Nat) : Nat := (l[k]?.getD 0).toNat
def dec (l : List UInt8) : Nat × Nat := Lib.decodeN l.length (bt l 0) (bt l 1) (bt l 2) (bt l 3)

theorem get_bt (s : ByteArray) (pos k : Nat) : (s.get! (pos + k)).toNat = bt (s.data.toList.drop pos) k := by
  unfold bt
  rw [List.getElem?_drop]
  have : s.get! (pos + k) = s.data.toList[pos + k]?.getD 0 := by
    obtain ⟨⟨l⟩⟩ := s
    simp only [ByteArray.get!, getElem!_def]
    simp only [List.getElem?_toArray]
    cases l[pos + k]? <;> rfl
  rw [this]

theorem decode_dec (s : ByteArray) (pos : Nat) : Utf8.decode s pos = dec (s.data.toList.drop pos) := by
  rw [Lib.decode_at]
  unfold dec
  rw [List.length_drop, ← Lib.size_eq, ← get_bt, ← get_bt, ← get_bt, ← get_bt]
  rfl

theorem bt_lt (l : List UInt8) (k : Nat) : bt l k < 256 := UInt8.toNat_lt _
theorem dec_ge1 (l : List UInt8) : 1 ≤ (dec l).2 := Lib.decodeN_ge1 _ _ _ _ _
theorem dec_le (l : List UInt8) (h : l ≠ []) : (dec l).2 ≤ l.length := Lib.decodeN_width_le _ _ _ _ _ (List.length_pos_iff.2 h)
theorem dec_rune (l : List UInt8) : (dec l).1 ≤ 1114111 := Lib.decodeN_rune_le _ _ _ _ _ (bt_lt _ _)

theorem dec_shape (l : List UInt8) : (bt l 0 < 128 ∧ dec l = (bt l 0, 1)) ∨ (128 ≤ bt l 0 ∧ 128 ≤ (dec l).1) := by
  have h := Lib.decodeN_shape l.length (bt l 0) (bt l 1) (bt l 2) (bt l 3)
  have hb := bt_lt l 0
  by_cases h0 : bt l 0 < 128
  · left
    refine ⟨h0, ?_⟩
    unfold dec Lib.decodeN
    rw [if_pos h0]
  · right
    refine ⟨by omega, ?_⟩
    unfold dec
    rcases h with ⟨a, e⟩ | ⟨a, b, c, d, e⟩ | ⟨a, b, c, d, f, g, e⟩ | ⟨a, b, c, d, f, g, i, e⟩ | e <;> rw [e] <;> simp only <;> omega

def badL (l : List UInt8) : Bool := (dec l).1 == 65533 && (dec l).2 == 1

theorem isPre3 (l : List UInt8) (a b c : UInt8) : Lib.hasPrefix l [a, b, c] = (decide (l[0]? = some a) && decide (l[1]? = some b) && decide (l[2]? = some c)) := by
  unfold Lib.hasPrefix
  match l with
  | [] => simp
  | [x] => simp [List.isPrefixOf]
  | [x, y] => simp [List.isPrefixOf]
  | x :: y :: z :: r =>
    rw [Bool.eq_iff_iff]
    simp
    constructor
    · rintro ⟨rfl, rfl, rfl⟩; simp
    · rintro ⟨⟨rfl, rfl⟩, rfl⟩; simp

theorem bt_some {l : List UInt8} {k : Nat} {c : UInt8} (h : l[k]? = some c) : bt l k = c.toNat := by simp [bt, h]
theorem some_bt {l : List UInt8} {k n : Nat} (h : bt l k = n) (hn : 0 < n) (c : UInt8) (hc : c.toNat = n) : l[k]? = some c := by
  unfold bt at h
  cases e : l[k]? with
  | none => rw [e] at h; simp at h; omega
  | some d =>
    rw [e] at h
    simp at h
    congr 1
    exact UInt8.toNat_inj.1 (by omega)

theorem err_prefix (l : List UInt8) (he : (dec l).1 = 65533) : Lib.hasPrefix l [239, 191, 189] = !(badL l) := by
  rw [isPre3]
  unfold badL
  rw [he]
  have h := Lib.decodeN_shape l.length (bt l 0) (bt l 1) (bt l 2) (bt l 3)
  have hb := bt_lt l 0
  have hd : dec l = Lib.decodeN l.length (bt l 0) (bt l 1) (bt l 2) (bt l 3) := rfl
  rcases h with ⟨a, e⟩ | ⟨a, b, c, d, e⟩ | ⟨a, b, c, d, f, g, e⟩ | ⟨a, b, c, d, f, g, i, e⟩ | e
  · rw [← hd] at e; rw [e] at he; simp at he; omega
  · rw [← hd] at e; rw [e] at he; simp at he; omega
  · rw [← hd] at e; rw [e] at he ⊢
    simp only at he ⊢
    have h1 := bt_lt l 1
    have h2 := bt_lt l 2
    rw [some_bt (k := 0) (n := 239) (by omega) (by omega) 239 rfl, some_bt (k := 1) (n := 191) (by omega) (by omega) 191 rfl, some_bt (k := 2) (n := 189) (by omega) (by omega) 189 rfl]
    rfl
  · rw [← hd] at e; rw [e] at he; simp at he; omega
  · rw [← hd] at e; rw [e]
    simp only [beq_self_eq_true, Bool.and_self, Bool.not_true, Bool.and_eq_false_iff, decide_eq_false_iff_not]
    by_cases h0 : l[0]? = some 239
    · by_cases h1 : l[1]? = some 191
      · right
        intro h2
        have b0 := bt_some h0
        have b1 := bt_some h1
        have b2 := bt_some h2
        simp at b0 b1 b2
        have hl : 2 < l.length := (List.getElem?_eq_some_iff.1 h2).1
        have : dec l = (65533, 3) := by
          unfold dec Lib.decodeN
          rw [b0, b1, b2]
          simp [hl]
          omega
        rw [e] at this
        cases this
      · exact Or.inl (Or.inr h1)
    · exact Or.inl (Or.inl h0)

def isNm (i : Nat) (r : Nat) : Bool := r == 95 || Lib.isLetterU r || (decide (0 < i) && Lib.isDigitU r)
def isDg (_ : Nat) (r : Nat) : Bool := decide (48 ≤ r) && decide (r ≤ 57)
def isDb (c : UInt8) : Bool := decide (48 ≤ c.toNat) && decide (c.toNat ≤ 57)

def runL (p : Nat → Nat → Bool) : Nat → Nat → List UInt8 → Nat
  | 0, _, _ => 0
  | f + 1, i, l => if l = [] then 0 else if badL l then 0 else if p i (dec l).1 then (dec l).2 + runL p f (i + (dec l).2) (l.drop (dec l).2) else 0

theorem runL_nil (p : Nat → Nat → Bool) (f i : Nat) : runL p f i [] = 0 := by cases f <;> simp [runL]
theorem runL_le (p : Nat → Nat → Bool) : ∀ (f i : Nat) (l : List UInt8), runL p f i l ≤ l.length
  | 0, _, _ => by simp [runL]
  | f + 1, i, l => by
    unfold runL
    split
    · exact Nat.zero_le _
    · rename_i hl
      split
      · exact Nat.zero_le _
      · split
        · have := runL_le p f (i + (dec l).2) (l.drop (dec l).2)
          rw [List.length_drop] at this
          have h1 := dec_le l hl
          omega
        · exact Nat.zero_le _
theorem runL_fuel (p : Nat → Nat → Bool) : ∀ (f g i : Nat) (l : List UInt8), l.length ≤ f → l.length ≤ g → runL p f i l = runL p g i l
  | 0, g, i, l, hf, _ => by
    have : l = [] := List.eq_nil_of_length_eq_zero (by omega)
    subst this
    rw [runL_nil, runL_nil]
  | f + 1, 0, i, l, _, hg => by
    have : l = [] := List.eq_nil_of_length_eq_zero (by omega)
    subst this
    rw [runL_nil, runL_nil]
  | f + 1, g + 1, i, l, hf, hg => by
    unfold runL
    by_cases hl : l = []
    · rw [if_pos hl, if_pos hl]
    · rw [if_neg hl, if_neg hl]
      have h1 := dec_le l hl
      have h2 := dec_ge1 l
      rw [runL_fuel p f g _ (l.drop (dec l).2) (by rw [List.length_drop]; omega) (by rw [List.length_drop]; omega)]

def nameL (l : List UInt8) : Nat := runL isNm l.length 0 l
def digs (l : List UInt8) : Nat := (l.takeWhile isDb).length

theorem digs_run : ∀ (f i : Nat) (l : List UInt8), l.length ≤ f → runL isDg f i l = digs l
  | 0, i, l, h => by
    have : l = [] := List.eq_nil_of_length_eq_zero (by omega)
    subst this
    rfl
  | f + 1, i, [], h => by rw [runL_nil]; rfl
  | f + 1, i, c :: r, h => by
    unfold runL
    rw [if_neg (by simp)]
    have hc : bt (c :: r) 0 = c.toNat := rfl
    rcases dec_shape (c :: r) with ⟨h0, e⟩ | ⟨h0, e⟩
    · have hb : badL (c :: r) = false := by
        unfold badL
        rw [e]
        simp
        omega
      rw [hb, if_neg (by simp), e]
      simp only [hc]
      have hd : isDg i c.toNat = isDb c := rfl
      rw [hd]
      unfold digs
      rw [List.takeWhile_cons]
      cases hx : isDb c with
      | true =>
        simp only [if_true, List.length_cons, List.drop_succ_cons, List.drop_zero]
        rw [digs_run f (i + 1) r (by simp at h; omega)]
        unfold digs
        omega
      | false => simp
    · have hd : isDg i (dec (c :: r)).1 = false := by
        unfold isDg
        simp
        omega
      rw [hd]
      have hx : isDb c = false := by
        unfold isDb
        simp
        omega
      unfold digs
      rw [List.takeWhile_cons, hx]
      simp

def numL (l : List UInt8) : Nat :=
  if digs l = 0 then 0
  else if (l.drop (digs l)).head? = some 46 ∧ 0 < digs (l.drop (digs l + 1)) then digs l + (1 + digs (l.drop (digs l + 1))) else digs l
def signs : List (List UInt8) := [[124, 124], [38, 38], [60, 61], [61, 61], [33, 61], [62, 61], [43], [45], [42], [47], [60], [62], [33], [63], [58], [44], [59], [61], [40], [41], [91], [93], [123], [125]]
def signIn (l : List UInt8) : List (List UInt8) → Nat
  | [] => 0
  | t :: r => if Lib.hasPrefix l t then t.length else signIn l r
def signL (l : List UInt8) : Nat := signIn l signs
def wordL (l : List UInt8) : Nat × Nat :=
  if 0 < nameL l then (0, nameL l) else if 0 < numL l then (1, numL l) else if 0 < signL l then (2, signL l) else (0, 0)
def isBl (c : UInt8) : Bool := c == 32 || c == 9 || c == 10 || c == 13
def skipB : Bool → List UInt8 → Nat
  | _, [] => 0
  | true, c :: r => if c = 10 then 1 + skipB false r else 1 + skipB true r
  | false, c :: r => if isBl c then 1 + skipB false r else if c = 47 ∧ r.head? = some 47 then 1 + skipB true r else 0
def skipL (l : List UInt8) : Nat := skipB false l
abbrev Tk := Nat × List UInt8 × Nat
abbrev Flt := Nat × Nat × List UInt8
def toksL : Nat → Nat → Nat → List UInt8 → Except Flt (List Tk)
  | 0, _, _, _ => .ok []
  | f + 1, n, p, l =>
    if l = [] then .ok []
    else if (wordL l).2 = 0 then .error (260, p, l.take (dec l).2)
    else if n = 4096 then .error (3, p, l.take (wordL l).2)
    else match toksL f (n + 1) (p + (wordL l).2 + skipL (l.drop (wordL l).2)) (l.drop ((wordL l).2 + skipL (l.drop (wordL l).2))) with
      | .ok ts => .ok (((wordL l).1, l.take (wordL l).2, p) :: ts)
      | .error e => .error e
def tokensL (l : List UInt8) : Except Flt (List Tk) :=
  if 65536 < l.length then .error (3, 0, []) else toksL l.length 0 (skipL l) (l.drop (skipL l))
end Go.Proofs.YtpbkeamjdolpgaaGreatDoor
namespace Go.Proofs.YtpbkeamjdolpgaaGreatDoor

inductive Nd where
  | mk (kind : Int) (name : List UInt8) (kids : List Nd) (pos : Int)
inductive Res (A : Type) where
  | out : Res A
  | bad (p : Nat) : Res A
  | ok (a : A) (p : Nat) : Res A
def Res.bind {A B : Type} (x : Res A) (f : A → Nat → Res B) : Res B :=
  match x with
  | .out => .out
  | .bad p => .bad p
  | .ok a p => f a p

def wModule : List UInt8 := [109, 111, 100, 117, 108, 101]
def wFunction : List UInt8 := [102, 117, 110, 99, 116, 105, 111, 110]
def wFor : List UInt8 := [102, 111, 114]
def wIf : List UInt8 := [105, 102]
def wElse : List UInt8 := [101, 108, 115, 101]
def resv (s : List UInt8) : Bool := decide (s = wModule) || decide (s = wFunction) || decide (s = wFor) || decide (s = wIf) || decide (s = wElse)
def signsK (k : Nat) : List (List UInt8) :=
  if k = 0 then [[124, 124]] else if k = 1 then [[38, 38]] else if k = 2 then [[60], [60, 61], [61, 61], [33, 61], [62, 61], [62]] else if k = 3 then [[43], [45]] else [[42], [47]]

section
variable (ts : List Tk) (L : Nat)

def kindT (p : Nat) : Int := match ts[p]? with | some t => t.1 | none => -1
def textT (p : Nat) : List UInt8 := match ts[p]? with | some t => t.2.1 | none => []
def placeT (p : Nat) : Nat := match ts[p]? with | some t => t.2.2 | none => L
def isT (p : Nat) (s : List UInt8) : Bool := decide (textT ts p = s) && (decide (kindT ts p = 2) || (decide (kindT ts p = 0) && resv s))
def namedT (p : Nat) : Bool := decide (kindT ts p = 0) && !resv (textT ts p)
def takeP (s : List UInt8) (p : Nat) : Res Nat := if isT ts p s then .ok (placeT ts L p) (p + 1) else .bad p
def nameP (p : Nat) : Res (List UInt8) := if namedT ts p then .ok (textT ts p) (p + 1) else .bad p
def anyT (p : Nat) (l : List (List UInt8)) : Bool := l.any (isT ts p)

def rowM (one : Nat → Res Nd) : Nat → List UInt8 → List Nd → Nat → Res (List Nd)
  | 0, _, _, _ => .out
  | f + 1, e, acc, q => if isT ts q e then .ok acc (q + 1) else (takeP ts L [44] q).bind fun _ r => (one r).bind fun x r' => rowM one f e (acc ++ [x]) r'
def rowG (one : Nat → Res Nd) (f : Nat) (e : List UInt8) (p : Nat) : Res (List Nd) :=
  if isT ts p e then .ok [] (p + 1) else (one p).bind fun x q => rowM ts L one f e [x] q
def nameN (p : Nat) : Res Nd := (nameP ts p).bind fun s q => .ok (.mk 10 s [] (placeT ts L p)) q
def argsO (ex : Nat → Res Nd) (f : Nat) (p : Nat) : Res Nd := (takeP ts L [40] p).bind fun a q => (rowG ts L ex f [41] q).bind fun l r => .ok (.mk 8 [] l a) r
def paramsP (f : Nat) (p : Nat) : Res Nd := (takeP ts L [40] p).bind fun a q => (rowG ts L (nameN ts L) f [41] q).bind fun l r => .ok (.mk 4 [] l a) r
def atomO (ex : Nat → Res Nd) (f : Nat) (p : Nat) : Res Nd :=
  if isT ts p [40] then (ex (p + 1)).bind fun x q => (takeP ts L [41] q).bind fun _ e => .ok x e
  else if isT ts p [91] then (rowG ts L ex f [93] (p + 1)).bind fun l q => .ok (.mk 11 [] l (placeT ts L p)) q
  else if kindT ts p = 1 then .ok (.mk 9 (textT ts p) [] (placeT ts L p)) (p + 1)
  else (nameP ts p).bind fun s q => if isT ts q [40] then (argsO ts L ex f q).bind fun a r => .ok (.mk 13 s [a] (placeT ts L p)) r else .ok (.mk 10 s [] (placeT ts L p)) q
def indexL (ex : Nat → Res Nd) : Nat → Nd → Nat → Res Nd
  | 0, _, _ => .out
  | f + 1, x, q => if isT ts q [91] then (ex (q + 1)).bind fun y r => (takeP ts L [93] r).bind fun _ e => indexL ex f (.mk 14 [] [x, y] (placeT ts L q)) e
    else .ok x q
def unaryL (ex : Nat → Res Nd) (F : Nat) : Nat → Nat → Res Nd
  | 0, _ => .out
  | f + 1, p => if isT ts p [45] || isT ts p [33] then (unaryL ex F f (p + 1)).bind fun x q => .ok (.mk 12 (textT ts p) [x] (placeT ts L p)) q
    else (atomO ts L ex F p).bind fun x q => indexL ts L ex F x q
def levelM (tight : Nat → Res Nd) (k : Nat) : Nat → Nd → Nat → Res Nd
  | 0, _, _ => .out
  | f + 1, x, q => if anyT ts q (signsK k) then (tight (q + 1)).bind fun y r =>
      (if k = 2 then .ok (.mk 12 (textT ts q) [x, y] (placeT ts L q)) r else levelM tight k f (.mk 12 (textT ts q) [x, y] (placeT ts L q)) r)
    else .ok x q
def levelO (tight : Nat → Res Nd) (k f p : Nat) : Res Nd := (tight p).bind fun x q => levelM ts L tight k f x q
def levO (ex : Nat → Res Nd) (f : Nat) : Nat → Nat → Res Nd
  | 0 => unaryL ts L ex f f
  | d + 1 => levelO ts L (levO ex f d) (4 - d) f
def exprO (ex : Nat → Res Nd) (f p : Nat) : Res Nd := (levO ts L ex f 5 p).bind fun x q =>
  if isT ts q [63] then (ex (q + 1)).bind fun y r => (takeP ts L [58] r).bind fun _ r' => (ex r').bind fun z e => .ok (.mk 15 [] [x, y, z] (placeT ts L q)) e
  else .ok x q
def exprP : Nat → Nat → Res Nd
  | 0 => fun _ => .out
  | f + 1 => exprO ts L (exprP f) f

def blockL (st : Nat → Res Nd) : Nat → List Nd → Nat → Res (List Nd)
  | 0, _, _ => .out
  | f + 1, acc, q => if isT ts q [125] then .ok acc (q + 1) else (st q).bind fun x r => blockL st f (acc ++ [x]) r
def blockO (st : Nat → Res Nd) (f p : Nat) : Res Nd := (takeP ts L [123] p).bind fun a q => (blockL ts st f [] q).bind fun l r => .ok (.mk 0 [] l a) r
def stmtO (ex st : Nat → Res Nd) (f p : Nat) : Res Nd :=
  if isT ts p wModule then (nameP ts (p + 1)).bind fun s q => (paramsP ts L f q).bind fun x r => (blockO ts L st f r).bind fun y e => .ok (.mk 2 s [x, y] (placeT ts L p)) e
  else if isT ts p wFunction then (nameP ts (p + 1)).bind fun s q => (paramsP ts L f q).bind fun x r => (takeP ts L [61] r).bind fun _ r1 => (ex r1).bind fun y r2 => (takeP ts L [59] r2).bind fun _ e => .ok (.mk 3 s [x, y] (placeT ts L p)) e
  else if isT ts p wFor then (takeP ts L [40] (p + 1)).bind fun _ q => (nameP ts q).bind fun s r => (takeP ts L [61] r).bind fun _ r1 => (ex r1).bind fun x r2 => (takeP ts L [41] r2).bind fun _ r3 => (blockO ts L st f r3).bind fun y e => .ok (.mk 5 s [x, y] (placeT ts L p)) e
  else if isT ts p wIf then (takeP ts L [40] (p + 1)).bind fun _ q => (ex q).bind fun x r => (takeP ts L [41] r).bind fun _ r1 => (blockO ts L st f r1).bind fun y r2 =>
    if isT ts r2 wElse then (blockO ts L st f (r2 + 1)).bind fun z e => .ok (.mk 6 [] [x, y, z] (placeT ts L p)) e else .ok (.mk 6 [] [x, y] (placeT ts L p)) r2
  else (nameP ts p).bind fun s q =>
    if isT ts q [61] then (ex (q + 1)).bind fun x r => (takeP ts L [59] r).bind fun _ e => .ok (.mk 1 s [x] (placeT ts L p)) e
    else (argsO ts L ex f q).bind fun x r => if isT ts r [123] then (blockO ts L st f r).bind fun y e => .ok (.mk 7 s [x, y] (placeT ts L p)) e else (takeP ts L [59] r).bind fun _ e => .ok (.mk 7 s [x] (placeT ts L p)) e
def stmtP (F : Nat) : Nat → Nat → Res Nd
  | 0 => fun _ => .out
  | f + 1 => stmtO ts L (exprP ts L F) (stmtP F f) F
def stmtsP (F : Nat) : Nat → List Nd → Nat → Res (List Nd)
  | 0, _, _ => .out
  | f + 1, acc, q => if ts.length ≤ q then .ok acc q else (stmtP ts L F F q).bind fun x r => stmtsP F f (acc ++ [x]) r
end
end Go.Proofs.YtpbkeamjdolpgaaGreatDoor
namespace Go.Proofs.YtpbkeamjdolpgaaGreatDoor
open Go.RowKit Go.Lib

theorem tr {a b c : World} (h : Below a.heap.size a b) (k : Below b.heap.size b c) : Below a.heap.size a c := h.trans (k.mono h.size)
theorem bdn {B : Nat} {a w : World} (h : Below B a w) (n : Nat) : Below B a (w.drewN n) := h.trans ⟨rfl, rfl, rfl, Nat.le_refl _, fun _ _ => rfl⟩
theorem own_shape {w : World} {base : Nat} {e : TypeId} {size : Nat} {v : Value} {n : Nat} {xs : List Value} (h : w.ownsRow base e size v n xs) : ∃ a c, v = .slice a n c := by
  rcases h.2 with ⟨h1, h2⟩ | ⟨g, cap, cur, h1, _⟩
  · exact ⟨none, 0, by rw [h1, h2]⟩
  · exact ⟨_, _, h1⟩
theorem own_below {w w' : World} {base : Nat} {e : TypeId} {size : Nat} {v : Value} {n : Nat} {xs : List Value} (h : w.ownsRow base e size v n xs) (hb : Below w.heap.size w w') : w'.ownsRow base e size v n xs := by
  refine ⟨h.1, ?_⟩
  rcases h.2 with h2 | ⟨g, cap, cur, h1, h2, h3, h4⟩
  · exact .inl h2
  · refine .inr ⟨g, cap, cur, h1, h2, ?_, h4⟩
    rw [hb.block g ((Array.getElem?_eq_some_iff.1 h3).1)]
    exact h3
theorem cell_three_new (w : World) (a b c : Value) (t : TypeId) : ∀ j u, [a, b, c][j]? = some u → (w.alloc (.cells #[a, b, c] t)).cell? ((⟨w.heap.size, 0, none⟩ : Addr).add j) = some u := by
  intro j u hj
  match j, hj with
  | 0, hj => simp at hj; subst hj; simp [Addr.add]
  | 1, hj => simp at hj; subst hj; simp [Addr.add]
  | 2, hj => simp at hj; subst hj; simp [Addr.add]
  | j + 3, hj => simp at hj
def tkCells (t : Tk) : List Value := [.int .i64 t.1, .string ⟨t.2.1.toArray⟩, .int .i64 t.2.2]
def tkFlat : List Tk → List Value
  | [] => []
  | t :: r => tkCells t ++ tkFlat r
theorem tkFlat_app (a b : List Tk) : tkFlat (a ++ b) = tkFlat a ++ tkFlat b := by
  induction a with
  | nil => rfl
  | cons t r ih => simp [tkFlat, ih]
theorem tkFlat_one (t : Tk) : tkFlat [t] = tkCells t := by simp [tkFlat]
theorem own_some {w : World} {base : Nat} {e : TypeId} {size : Nat} {v : Value} {n : Nat} {xs : List Value} (h : w.ownsRow base e size v n xs) (hn : 0 < n) :
    ∃ g cap, v = .slice (some ⟨g, 0, none⟩) n cap ∧ base ≤ g ∧ g < w.heap.size ∧ (∀ j, j < n * size → w.cell? ⟨g, j, none⟩ = xs[j]?) := by
  rcases h.2 with ⟨_, h2⟩ | ⟨g, cap, cur, h1, h2, h3, h4⟩
  · omega
  · refine ⟨g, cap, h1, h2, (Array.getElem?_eq_some_iff.1 h3).1, ?_⟩
    subst h1
    exact fun j hj => h.cellAt j hj
theorem tkFlat_at : ∀ (ts : List Tk) (i : Nat) (t : Tk), ts[i]? = some t → (tkFlat ts)[i * 3]? = some (.int .i64 t.1) ∧ (tkFlat ts)[i * 3 + 1]? = some (.string ⟨t.2.1.toArray⟩) ∧ (tkFlat ts)[i * 3 + 2]? = some (.int .i64 t.2.2)
  | [], i, t, h => by simp at h
  | u :: r, 0, t, h => by
    simp at h
    subst h
    exact ⟨rfl, rfl, rfl⟩
  | u :: r, i + 1, t, h => by
    have ih := tkFlat_at r i t (by simpa using h)
    have e : ∀ k, (tkFlat (u :: r))[(i + 1) * 3 + k]? = (tkFlat r)[i * 3 + k]? := fun k => by
      show (tkCells u ++ tkFlat r)[(i + 1) * 3 + k]? = _
      rw [List.getElem?_append_right (by simp [tkCells]; omega)]
      congr 1
      simp [tkCells]
      omega
    exact ⟨(e 0).trans ih.1, (e 1).trans ih.2.1, (e 2).trans ih.2.2⟩
theorem al_cell {w : World} {p : Addr} {v : Value} (h : w.cell? p = some v) (o : Obj) : (w.alloc o).cell? p = some v := by
  rw [World.cell?_alloc_lt _ _ p (World.block_lt_of_cell? w p h)]
  exact h
def TokRow (w : World) (x : Option Addr) (ts : List Tk) : Prop :=
  ∀ i u, ts[i]? = some u → ∃ g, x = some ⟨g, 0, none⟩ ∧ w.cell? ⟨g, i * 3, none⟩ = some (.int .i64 u.1) ∧ w.cell? ⟨g, i * 3 + 1, none⟩ = some (.string ⟨u.2.1.toArray⟩) ∧ w.cell? ⟨g, i * 3 + 2, none⟩ = some (.int .i64 u.2.2)
theorem TokRow.below {w w' : World} {x : Option Addr} {ts : List Tk} (h : TokRow w x ts) (hb : Below w.heap.size w w') : TokRow w' x ts := by
  intro i u hu
  obtain ⟨g, h1, h2, h3, h4⟩ := h i u hu
  have hg : g < w.heap.size := World.block_lt_of_cell? w _ h2
  exact ⟨g, h1, (hb.cell (p := ⟨g, i * 3, none⟩) hg).trans h2, (hb.cell (p := ⟨g, i * 3 + 1, none⟩) hg).trans h3, (hb.cell (p := ⟨g, i * 3 + 2, none⟩) hg).trans h4⟩
theorem tokRow_own {w : World} {base : Nat} {e : TypeId} {x : Option Addr} {n cap : Nat} {ts : List Tk} (h : w.ownsRow base e 3 (.slice x n cap) ts.length (tkFlat ts)) : TokRow w x ts := by
  intro i u hu
  have hi : i < ts.length := (List.getElem?_eq_some_iff.1 hu).1
  obtain ⟨g, c, h1, _, h2, h3⟩ := own_some h (by omega)
  have hf := tkFlat_at ts i u hu
  cases h1
  exact ⟨g, rfl, (h3 _ (by omega)).trans hf.1, (h3 _ (by omega)).trans hf.2.1, (h3 _ (by omega)).trans hf.2.2⟩
theorem cell_one_new (w : World) (a : Value) (t : TypeId) : ∀ j u, [a][j]? = some u → (w.alloc (.cells #[a] t)).cell? ((⟨w.heap.size, 0, none⟩ : Addr).add j) = some u := by
  intro j u hj
  match j, hj with
  | 0, hj => simp at hj; subst hj; simp [Addr.add]
  | j + 1, hj => simp at hj
theorem own_cap {w : World} {base : Nat} {e : TypeId} {size : Nat} {a : Option Addr} {m c n : Nat} {xs : List Value} (h : w.ownsRow base e size (.slice a m c) n xs) : n ≤ c := by
  rcases h.2 with ⟨h1, h2⟩ | ⟨g, cap, cur, h1, h2, h3, h4⟩
  · omega
  · cases h1
    exact h4.1
end Go.Proofs.YtpbkeamjdolpgaaGreatDoor
namespace Go.Proofs.YtpbkeamjdolpgaaGreatDoor
open Go.RowKit Go.Lib

structure Ow (b : Nat) (w w' : World) : Prop where
  os : w'.os = w.os
  tape : w'.tape = w.tape
  output : w'.output = w.output
  size : w.heap.size ≤ w'.heap.size
  block : ∀ k, k < w.heap.size → k ≠ b → w'.heap[k]? = w.heap[k]?
theorem Ow.refl (b : Nat) (w : World) : Ow b w w := ⟨rfl, rfl, rfl, Nat.le_refl _, fun _ _ _ => rfl⟩
theorem Ow.trans {b : Nat} {w w1 w2 : World} (h : Ow b w w1) (k : Ow b w1 w2) : Ow b w w2 :=
  ⟨k.os.trans h.os, k.tape.trans h.tape, k.output.trans h.output, Nat.le_trans h.size k.size, fun i hi hn => (k.block i (Nat.lt_of_lt_of_le hi h.size) hn).trans (h.block i hi hn)⟩
theorem Ow.of_below {b : Nat} {w w' : World} (h : Below w.heap.size w w') : Ow b w w' := ⟨h.os, h.tape, h.output, h.size, fun k hk _ => h.block k hk⟩
theorem Ow.below {b : Nat} {w w1 w2 : World} (h : Ow b w w1) (k : Below w1.heap.size w1 w2) : Ow b w w2 := h.trans (Ow.of_below k)
theorem Ow.drew {b : Nat} {w w1 : World} (h : Ow b w w1) : Ow b w w1.drew := ⟨h.os, h.tape, h.output, h.size, h.block⟩
theorem Ow.drewN {b : Nat} {w w1 : World} (h : Ow b w w1) (n : Nat) : Ow b w (w1.drewN n) := ⟨h.os, h.tape, h.output, h.size, h.block⟩
theorem Ow.alloc {b : Nat} {w w1 : World} (h : Ow b w w1) (o : Obj) : Ow b w (w1.alloc o) := h.below ((Below.refl _ _).alloc (Nat.le_refl _) _)
theorem Ow.setCell {b : Nat} {w w1 : World} (h : Ow b w w1) {a : Addr} (ha : a.block = b ∨ w.heap.size ≤ a.block) (u : Value) : Ow b w (w1.setCell a u) :=
  ⟨h.os, h.tape, h.output, by have := h.size; simpa [World.setCell] using this, fun k hk hn => by
    refine (Below.heap_setCell w1 a u k ?_).trans (h.block k hk hn)
    rcases ha with ha | ha
    · omega
    · omega⟩
theorem Ow.grown {b : Nat} {w w1 w2 : World} {row : Option Nat} (h : Ow b w w1) (hg : w1.grownBy w2 row) (hr : ∀ k, row = some k → w.heap.size ≤ k) : Ow b w w2 :=
  ⟨hg.os.trans h.os, hg.tape.trans h.tape, hg.output.trans h.output, Nat.le_trans h.size hg.size, fun k hk hn => (hg.block k (Nat.lt_of_lt_of_le hk h.size) (fun e => by have := hr k e.symm; omega)).trans (h.block k hk hn)⟩
theorem Ow.cell {b : Nat} {w w' : World} (h : Ow b w w') {p : Addr} {v : Value} (hn : p.block ≠ b) (hc : w.cell? p = some v) : w'.cell? p = some v :=
  (World.cell?_of_block (h.block p.block (World.block_lt_of_cell? w p hc) hn)).trans hc
theorem Ow.toBelow {b : Nat} {w w' : World} (h : Ow b w w') {B : Nat} (hB : B ≤ b) (hB2 : B ≤ w.heap.size) : Below B w w' :=
  ⟨h.os, h.tape, h.output, h.size, fun k hk => h.block k (by omega) (by omega)⟩

structure OkB (w : World) (ok : Nat → Prop) (b o : Nat) : Prop where
  ok : ok b
  fr : ∀ q, w.frozen? ⟨b, q, none⟩ = false
  al : o % 4 = 0
abbrev Cp (n : Nat) : Type := {c : Nat // n ≤ c}
mutual
def NdAt (w : World) (ok : Nat → Prop) : Nd → Nat → Nat → Prop
  | .mk k n kids p, b, o => OkB w ok b o ∧ w.cell? ⟨b, o, none⟩ = some (.int .i64 k) ∧ w.cell? ⟨b, o + 1, none⟩ = some (.string ⟨n.toArray⟩) ∧ w.cell? ⟨b, o + 3, none⟩ = some (.int .i64 p) ∧
      ∃ y, ∃ c : Cp kids.length, w.cell? ⟨b, o + 2, none⟩ = some (.slice y kids.length c) ∧ NdRow w ok kids y
def NdRow (w : World) (ok : Nat → Prop) : List Nd → Option Addr → Prop
  | [], _ => True
  | x :: r, y => ∃ b o, y = some ⟨b, o, none⟩ ∧ NdAt w ok x b o ∧ NdRow w ok r (some ⟨b, o + 4, none⟩)
end

mutual
theorem NdAt.mono {w w' : World} {ok ok' : Nat → Prop} (hk : ∀ k, ok k → k < w.heap.size → ok' k) (hw : ∀ k, ok k → k < w.heap.size → w'.heap[k]? = w.heap[k]?) : ∀ (x : Nd) (b o : Nat), NdAt w ok x b o → NdAt w' ok' x b o
  | .mk k n kids p, b, o, h => by
    obtain ⟨h0, h1, h2, h3, y, c, h4, h5⟩ := h
    have hb : b < w.heap.size := World.block_lt_of_cell? w _ h1
    have e : ∀ q, w'.cell? ⟨b, q, none⟩ = w.cell? ⟨b, q, none⟩ := fun q => World.cell?_of_block (hw b h0.ok hb)
    exact ⟨⟨hk b h0.ok hb, fun q => (World.frozen?_of_block (a := ⟨b, q, none⟩) (hw b h0.ok hb)).trans (h0.fr q), h0.al⟩, (e _).trans h1, (e _).trans h2, (e _).trans h3, y, c, (e _).trans h4, NdRow.mono hk hw kids y h5⟩
theorem NdRow.mono {w w' : World} {ok ok' : Nat → Prop} (hk : ∀ k, ok k → k < w.heap.size → ok' k) (hw : ∀ k, ok k → k < w.heap.size → w'.heap[k]? = w.heap[k]?) : ∀ (l : List Nd) (y : Option Addr), NdRow w ok l y → NdRow w' ok' l y
  | [], _, _ => trivial
  | x :: r, y, h => by
    obtain ⟨b, o, rfl, h1, h2⟩ := h
    exact ⟨b, o, rfl, NdAt.mono hk hw x b o h1, NdRow.mono hk hw r _ h2⟩
end
theorem NdRow.wide {w : World} {ok ok' : Nat → Prop} {l : List Nd} {y : Option Addr} (h : NdRow w ok l y) (hk : ∀ k, ok k → k < w.heap.size → ok' k) : NdRow w ok' l y := NdRow.mono hk (fun _ _ _ => rfl) l y h
theorem NdRow.below {w w' : World} {ok : Nat → Prop} {l : List Nd} {y : Option Addr} (h : NdRow w ok l y) (hb : Below w.heap.size w w') : NdRow w' ok l y := NdRow.mono (fun _ h _ => h) (fun k _ hk => hb.block k hk) l y h
theorem NdRow.ow {w w' : World} {ok : Nat → Prop} {l : List Nd} {y : Option Addr} {b : Nat} (h : NdRow w ok l y) (hb : Ow b w w') (hn : ∀ k, ok k → k ≠ b) : NdRow w' ok l y := NdRow.mono (fun _ h _ => h) (fun k h1 hk => hb.block k hk (hn k h1)) l y h
theorem NdRow.at_ {w : World} {ok : Nat → Prop} : ∀ {l : List Nd} {y : Option Addr} {i : Nat} {x : Nd}, NdRow w ok l y → l[i]? = some x → ∃ b o, y = some ⟨b, o, none⟩ ∧ NdAt w ok x b (o + i * 4)
  | [], _, i, x, _, hi => by simp at hi
  | u :: r, y, 0, x, h, hi => by
    obtain ⟨b, o, rfl, h1, h2⟩ := h
    simp at hi
    subst hi
    exact ⟨b, o, rfl, by simpa using h1⟩
  | u :: r, y, i + 1, x, h, hi => by
    obtain ⟨b, o, rfl, h1, h2⟩ := h
    obtain ⟨b', o', h3, h4⟩ := NdRow.at_ (i := i) h2 (by simpa using hi)
    cases h3
    refine ⟨b, o, rfl, ?_⟩
    rw [show o + (i + 1) * 4 = o + 4 + i * 4 by omega]
    exact h4

def NdCells (w : World) (ok : Nat → Prop) : Nd → List Value → Prop
  | .mk k n kids p, xs => ∃ y, ∃ c : Cp kids.length, xs = [.int .i64 k, .string ⟨n.toArray⟩, .slice y kids.length c, .int .i64 p] ∧ NdRow w ok kids y
def NdVal (w : World) (ok : Nat → Prop) : Nd → Value → Prop
  | .mk k n kids p, v => ∃ y, ∃ c : Cp kids.length, v = .agg #[.int .i64 k, .string ⟨n.toArray⟩, .slice y kids.length c, .int .i64 p] ∧ NdRow w ok kids y
theorem NdAt.val {w : World} {ok : Nat → Prop} {x : Nd} {b o : Nat} (h : NdAt w ok x b o) : ∃ k n y m, ∃ c : Cp (List.length m), ∃ p, x = .mk k n m p ∧ w.cell? ⟨b, o, none⟩ = some (.int .i64 k) ∧ w.cell? ⟨b, o + 1, none⟩ = some (.string ⟨n.toArray⟩) ∧ w.cell? ⟨b, o + 2, none⟩ = some (.slice y m.length c) ∧ w.cell? ⟨b, o + 3, none⟩ = some (.int .i64 p) ∧ NdRow w ok m y := by
  obtain ⟨k, n, kids, p⟩ := x
  obtain ⟨_, h1, h2, h3, y, c, h4, h5⟩ := h
  exact ⟨k, n, y, kids, c, p, rfl, h1, h2, h4, h3, h5⟩

def NFlat (w : World) (ok : Nat → Prop) : List Nd → List Value → Prop
  | [], xs => xs = []
  | x :: r, xs => ∃ a t, xs = a ++ t ∧ NdCells w ok x a ∧ NFlat w ok r t
theorem NdCells.len {w : World} {ok : Nat → Prop} {x : Nd} {a : List Value} (h : NdCells w ok x a) : a.length = 4 := by
  obtain ⟨k, n, kids, p⟩ := x
  obtain ⟨y, c, rfl, _⟩ := h
  rfl
theorem NdCells.mono {w w' : World} {ok ok' : Nat → Prop} {x : Nd} {v : List Value} (h : NdCells w ok x v) (hk : ∀ k, ok k → k < w.heap.size → ok' k) (hw : ∀ k, ok k → k < w.heap.size → w'.heap[k]? = w.heap[k]?) : NdCells w' ok' x v := by
  obtain ⟨k, n, kids, p⟩ := x
  obtain ⟨y, c, rfl, h1⟩ := h
  exact ⟨y, c, rfl, NdRow.mono hk hw _ _ h1⟩
theorem NFlat.mono {w w' : World} {ok ok' : Nat → Prop} (hk : ∀ k, ok k → k < w.heap.size → ok' k) (hw : ∀ k, ok k → k < w.heap.size → w'.heap[k]? = w.heap[k]?) : ∀ {l : List Nd} {xs : List Value}, NFlat w ok l xs → NFlat w' ok' l xs
  | [], _, h => h
  | x :: r, _, h => by
    obtain ⟨a, t, rfl, h1, h2⟩ := h
    exact ⟨a, t, rfl, h1.mono hk hw, NFlat.mono hk hw h2⟩
theorem NFlat.app {w : World} {ok : Nat → Prop} {x : Nd} {a : List Value} (ha : NdCells w ok x a) : ∀ {l : List Nd} {xs : List Value}, NFlat w ok l xs → NFlat w ok (l ++ [x]) (xs ++ a)
  | [], xs, h => by
    obtain rfl : xs = [] := h
    exact ⟨a, [], by simp, ha, rfl⟩
  | u :: r, _, h => by
    obtain ⟨b, t, rfl, h1, h2⟩ := h
    exact ⟨b, t ++ a, by simp, h1, NFlat.app ha h2⟩
theorem NFlat.one {w : World} {ok : Nat → Prop} {x : Nd} {a : List Value} (ha : NdCells w ok x a) : NFlat w ok [x] a := ⟨a, [], by simp, ha, rfl⟩
theorem NFlat.row {w : World} {ok : Nat → Prop} {b : Nat} (hb : ok b) (hf : ∀ q, w.frozen? ⟨b, q, none⟩ = false) : ∀ {l : List Nd} {xs : List Value} (o : Nat), o % 4 = 0 → NFlat w ok l xs → (∀ j u, xs[j]? = some u → w.cell? ⟨b, o + j, none⟩ = some u) → NdRow w ok l (some ⟨b, o, none⟩)
  | [], _, _, _, _, _ => trivial
  | x :: r, xs, o, ho, h, hc => by
    obtain ⟨a, t, rfl, h1, h2⟩ := h
    have hl := h1.len
    refine ⟨b, o, rfl, ?_, NFlat.row hb hf (o + 4) (by omega) h2 fun j u hj => ?_⟩
    · obtain ⟨k, n, kids, p⟩ := x
      obtain ⟨y, c, rfl, h3⟩ := h1
      exact ⟨⟨hb, hf, ho⟩, hc 0 _ rfl, hc 1 _ rfl, hc 3 _ rfl, y, c, hc 2 _ rfl, h3⟩
    · have := hc (4 + j) u (by rw [List.getElem?_append_right (by omega), hl, Nat.add_sub_cancel_left]; exact hj)
      rwa [← Nat.add_assoc] at this

def RowOwn (w : World) (B : Nat) (v : Value) (l : List Nd) : Prop :=
  ∃ xs, w.ownsRow B 53 4 v l.length xs ∧ NFlat w (fun k => B ≤ k ∧ some k ≠ v.ownBlock) l xs
theorem RowOwn.nil (w : World) (B : Nat) : RowOwn w B (.slice none 0 0) [] := ⟨[], World.ownsRow_nil _ _ _ _, rfl⟩
theorem RowOwn.ow {w w' : World} {B b : Nat} {v : Value} {l : List Nd} (h : RowOwn w B v l) (hw : Ow b w w') (hb : b < B) : RowOwn w' B v l := by
  obtain ⟨xs, h1, h2⟩ := h
  refine ⟨xs, ⟨h1.1, ?_⟩, NFlat.mono (fun _ h _ => h) (fun k hk hlt => hw.block k hlt (by omega)) h2⟩
  rcases h1.2 with h3 | ⟨g, cap, cur, h4, h5, h6, h7⟩
  · exact .inl h3
  · refine .inr ⟨g, cap, cur, h4, h5, ?_, h7⟩
    rw [hw.block g ((Array.getElem?_eq_some_iff.1 h6).1) (by omega)]
    exact h6
theorem RowOwn.below {w w' : World} {B : Nat} {v : Value} {l : List Nd} (h : RowOwn w B v l) (hw : Below w.heap.size w w') : RowOwn w' B v l := by
  obtain ⟨xs, h1, h2⟩ := h
  exact ⟨xs, own_below h1 hw, NFlat.mono (fun _ h _ => h) (fun k hk hlt => hw.block k hlt) h2⟩
theorem RowOwn.shape {w : World} {B : Nat} {v : Value} {l : List Nd} (h : RowOwn w B v l) : ∃ a c, v = .slice a l.length c ∧ l.length ≤ c ∧ NdRow w (fun k => B ≤ k) l a := by
  obtain ⟨xs, h1, h2⟩ := h
  rcases h1.2 with ⟨h3, h4⟩ | ⟨g, cap, cur, h4, h5, h6, h7, h8, h9, h10⟩
  · have hl : l = [] := List.length_eq_zero_iff.1 h4
    subst hl
    exact ⟨none, 0, h3, Nat.le_refl _, trivial⟩
  · refine ⟨some ⟨g, 0, none⟩, cap, h4, h7, ?_⟩
    have h2' := NFlat.mono (w' := w) (ok' := fun k => B ≤ k) (fun k hk _ => hk.1) (fun _ _ _ => rfl) h2
    refine NFlat.row (b := g) h5 (fun q => by simp [World.frozen?, h6]) 0 rfl h2' fun j u hj => ?_
    have := h1.cells (g := g) (by rw [h4]; rfl) j u hj
    simpa [Addr.add_lit] using this

theorem run_append_fresh {P : Program} (w : World) (base : Nat) (t ty e : TypeId) (i : TypeInfo) (z : Value) (size bytes : Nat) (ht : P.underlying t = some (.slice e)) (hi : P.info? e = some i) (hz : i.zero = some z)
    (hsize : i.size = size) (hby : i.bytes = bytes) (hzs : z.cells.size = size) (hsz : 0 < size)
    (v : Value) (n : Nat) (xs : List Value) (hown : w.ownsRow base e size v n xs)
    (a : Addr) (m c : Nat) (news : List Value) (hl : news.length = m * size) (hnews : ∀ j u, news[j]? = some u → w.cell? (a.add j) = some u) (h1 : ∀ u ∈ news, u.oneCell' = true)
    (h63 : n + m ≤ maxLen) (hbytes : (n + m) * bytes ≤ 140737488355328) (hbase : base ≤ w.heap.size) :
    ∃ v' w', (Builtin.append_ #[t, t] ty #[v, .slice (some a) m c]).run P w = .ok v' w' ∧ w'.ownsRow base e size v' (n + m) (xs ++ news) ∧ w.grownBy w' v.ownBlock ∧
      (v'.ownBlock = v.ownBlock ∨ ∀ k, v'.ownBlock = some k → w.heap.size ≤ k) := by
  obtain ⟨v', w', hr, h2, h3, h4⟩ := run_append_own w base t ty e i z size bytes ht hi hz hsize hby hzs hsz v n xs hown a m c news hl hnews h1 h63 hbytes hbase
  refine ⟨v', w', hr, h2, h3, ?_⟩
  rcases hown.2 with ⟨rfl, rfl⟩ | ⟨g, cap, cur, rfl, hbg, hg, hnc, hcm, hcs, htake⟩
  · have hx : xs = [] := List.eq_nil_of_length_eq_zero (by simpa using hown.1)
    subst hx
    obtain ⟨v2, w2, hr2, k2, k3, k4⟩ := run_append_own w w.heap.size t ty e i z size bytes ht hi hz hsize hby hzs hsz (.slice none 0 0) 0 [] (World.ownsRow_nil _ _ _ _) a m c news hl hnews h1 h63 hbytes (Nat.le_refl _)
    rw [hr] at hr2
    simp only [Result.ok.injEq] at hr2
    obtain ⟨rfl, rfl⟩ := hr2
    exact .inr fun k hk => (k2.lt k hk).1
  · by_cases hroom : n + m ≤ cap
    · obtain ⟨w2, hr2, k1, k2⟩ := run_append_fits (P := P) w base t ty e i size ht hi hsize g n cap xs hown a m c news hl hnews h1 hroom
      rw [hr] at hr2
      simp only [Result.ok.injEq] at hr2
      obtain ⟨rfl, rfl⟩ := hr2
      exact .inl rfl
    · subst hsize
      subst hby
      have holds : ∀ j u, xs[j]? = some u → w.cell? ((⟨g, 0, none⟩ : Addr).add j) = some u := hown.cells (g := g) rfl
      have hr2 := run_append_grow (P := P) w t ty e i z ht hi hz ⟨g, 0, none⟩ n cap xs hown.1 holds a m c news hl hnews (by omega) (by simp only [maxLen] at h63; omega) (growslice_fits (by omega) hbytes)
      rw [hr] at hr2
      simp only [Result.ok.injEq] at hr2
      obtain ⟨rfl, rfl⟩ := hr2
      refine .inr fun k hk => ?_
      simp [Value.ownBlock] at hk
      omega
theorem wpList_append_fresh {P : Program} (w : World) {ops : Array Oper} {rest : List Oper} {o : Oper} {a : Act} {Q : Exit → Act → World → Prop} (hgd : o.guard = none) (s x : Operand) (t : TypeId)
    (ho : o.op = .call { callee := .builtin .append, args := #[s, x], argTypes := #[t, t] })
    (base : Nat) (e : TypeId) (i : TypeInfo) (z : Value) (size bytes : Nat) (ht : P.underlying t = some (.slice e)) (hi : P.info? e = some i) (hz : i.zero = some z)
    (hsize : i.size = size) (hby : i.bytes = bytes) (hzs : z.cells.size = size) (hsz : 0 < size)
    (v : Value) (n : Nat) (xs : List Value) (hs : a.eval s = v) (hown : w.ownsRow base e size v n xs)
    (ad : Addr) (m c : Nat) (news : List Value) (hx : a.eval x = .slice (some ad) m c) (hl : news.length = m * size) (hnews : ∀ j u, news[j]? = some u → w.cell? (ad.add j) = some u) (h1 : ∀ u ∈ news, u.oneCell' = true)
    (h63 : n + m ≤ maxLen) (hbytes : (n + m) * bytes ≤ 140737488355328) (hbase : base ≤ w.heap.size)
    (h : ∀ v' w', w'.ownsRow base e size v' (n + m) (xs ++ news) → w.grownBy w' v.ownBlock → (v'.ownBlock = v.ownBlock ∨ ∀ k, v'.ownBlock = some k → w.heap.size ≤ k) → wpList P ops Q rest (a.put o.dst v') w') : wpList P ops Q (o :: rest) a w :=
  wpList_plain hgd fun _ hK => by
    obtain ⟨v', w', hr, h2, h3, h4⟩ := run_append_fresh (P := P) w base t o.type e i z size bytes ht hi hz hsize hby hzs hsz v n xs hown ad m c news hl hnews h1 h63 hbytes hbase
    unfold Oper.wp execOp
    simp only [ho, resolve, invoke, builtin, Sem.run_bind, Sem.run_pure, Result.andThen_ok, List.map_toArray, List.map_cons, List.map_nil, hs, hx, hr]
    exact hK _ _ (h v' w' h2 h3 h4)
theorem RowOwn.snoc {w w' : World} {B : Nat} {v v' : Value} {l : List Nd} {x : Nd} {a xs : List Value} (hf : NFlat w (fun k => B ≤ k ∧ some k ≠ v.ownBlock) l xs) (ha : NdCells w (fun k => B ≤ k ∧ some k ≠ v.ownBlock) x a)
    (h2 : w'.ownsRow B 53 4 v' (l.length + 1) (xs ++ a)) (h3 : w.grownBy w' v.ownBlock) (h4 : v'.ownBlock = v.ownBlock ∨ ∀ k, v'.ownBlock = some k → w.heap.size ≤ k) : RowOwn w' B v' (l ++ [x]) := by
  refine ⟨xs ++ a, by simpa using h2, NFlat.mono (fun k hk hlt => ⟨hk.1, ?_⟩) (fun k hk hlt => h3.block k hlt hk.2) (NFlat.app ha hf)⟩
  rcases h4 with h4 | h4
  · rw [h4]; exact hk.2
  · intro e
    have := h4 k e.symm
    omega

structure Ctx where
  s : ByteArray
  ts : List Tk
  x : Option Addr
  c : Nat
  pb : Nat
structure PSt (C : Ctx) (w : World) (p : Nat) : Prop where
  blk : w.heap[C.pb]? = some (.cells #[.string C.s, .slice C.x C.ts.length C.c, .int .i64 p] 96 (0, 0))
  row : TokRow w C.x C.ts
  xne : ∀ g, C.x = some ⟨g, 0, none⟩ → g ≠ C.pb
  le : p ≤ C.ts.length
  len : C.ts.length ≤ 4096
theorem PSt.lt {C : Ctx} {w : World} {p : Nat} (h : PSt C w p) : C.pb < w.heap.size := (Array.getElem?_eq_some_iff.1 h.blk).1
theorem PSt.below {C : Ctx} {w w' : World} {p : Nat} (h : PSt C w p) (hb : Below w.heap.size w w') : PSt C w' p :=
  ⟨(hb.block _ h.lt).trans h.blk, h.row.below hb, h.xne, h.le, h.len⟩
theorem PSt.cells {C : Ctx} {w : World} {p : Nat} (h : PSt C w p) : w.cell? ⟨C.pb, 0, none⟩ = some (.string C.s) ∧ w.cell? ⟨C.pb, 1, none⟩ = some (.slice C.x C.ts.length C.c) ∧ w.cell? ⟨C.pb, 2, none⟩ = some (.int .i64 p) ∧ w.frozen? ⟨C.pb, 2, none⟩ = false := by
  have hb := h.blk
  refine ⟨?_, ?_, ?_, ?_⟩ <;> simp [World.cell?, World.frozen?, hb]
theorem PSt.step {C : Ctx} {w : World} {p : Nat} (h : PSt C w p) {q : Nat} (hq : q ≤ C.ts.length) : PSt C (w.setCell ⟨C.pb, 2, none⟩ (.int .i64 q)) q := by
  refine ⟨?_, ?_, h.xne, hq, h.len⟩
  · have hb := h.blk
    simp only [World.setCell, Array.getElem?_modify, if_true, hb]
    rfl
  · intro i u hu
    obtain ⟨g, h1, h2, h3, h4⟩ := h.row i u hu
    have hg := h.xne g h1
    refine ⟨g, h1, ?_, ?_, ?_⟩
    · rw [World.cell?_of_block (Below.heap_setCell w _ _ _ hg)]; exact h2
    · rw [World.cell?_of_block (Below.heap_setCell w _ _ _ hg)]; exact h3
    · rw [World.cell?_of_block (Below.heap_setCell w _ _ _ hg)]; exact h4
theorem PSt.keep {C : Ctx} {w w1 w2 : World} {p q : Nat} (h0 : PSt C w p) (h : PSt C w1 q) (hk : ∀ k, k < w.heap.size → w2.heap[k]? = w1.heap[k]?) : PSt C w2 q := by
  refine ⟨(hk _ h0.lt).trans h.blk, ?_, h.xne, h.le, h.len⟩
  intro i u hu
  obtain ⟨g, h1, h2, _, _⟩ := h0.row i u hu
  obtain ⟨g', h1', h2', h3', h4'⟩ := h.row i u hu
  rw [h1] at h1'
  cases h1'
  have hg : g < w.heap.size := World.block_lt_of_cell? w _ h2
  exact ⟨g, h1, (World.cell?_of_block (hk g hg)).trans h2', (World.cell?_of_block (hk g hg)).trans h3', (World.cell?_of_block (hk g hg)).trans h4'⟩
def Dead (w w' : World) (f : Flt) (e : Ending) : Prop :=
  ∃ b, w.heap.size ≤ b ∧ e = .panicked [{ v := .iface 23 (.pointer (some ⟨b, 0, none⟩)), recovered := false }] ∧ w'.heap[b]? = some (.cells #[.int .i64 f.1, .int .i64 f.2.1, .string ⟨f.2.2.toArray⟩] 61 (0, 0))
def Fin {A : Type} (C : Ctx) (w : World) (R : Res A) (ret : A → World → Value → Prop) (e : Ending) (w' : World) : Prop :=
  (∃ a q v, R = .ok a q ∧ e = .returned v ∧ ret a w' v ∧ PSt C w' q ∧ Ow C.pb w w') ∨
  (∃ q, R = .bad q ∧ Dead w w' (270, placeT C.ts C.s.size q, textT C.ts q) e ∧ Ow C.pb w w')
end Go.Proofs.YtpbkeamjdolpgaaGreatDoor
namespace Go.Proofs.YtpbkeamjdolpgaaGreatDoor
open Go.RowKit Go.Lib Go.Shelf

end Go.Proofs.YtpbkeamjdolpgaaGreatDoor
namespace Go.Proofs.YtpbkeamjdolpgaaGreatDoor
open Go.RowKit Go.Lib Go.Shelf

section
variable (b : Nat) (w : World) (p : Value)
end
end Go.Proofs.YtpbkeamjdolpgaaGreatDoor
namespace Go.Proofs.YtpbkeamjdolpgaaGreatDoor

mutual
def deepN : Nd → Nat → Option Nd
  | .mk _ _ kids _, d => deepL kids (d + 1)
def deepL : List Nd → Nat → Option Nd
  | [], _ => none
  | x :: r, d => if 64 < d then some x else match deepN x d with
    | some y => some y
    | none => deepL r d
end

def Nd.kind : Nd → Int | .mk k _ _ _ => k
def Nd.name : Nd → List UInt8 | .mk _ n _ _ => n
def Nd.kids : Nd → List Nd | .mk _ _ l _ => l
def Nd.pos : Nd → Int | .mk _ _ _ p => p

def levelS (s : List UInt8) : Nat :=
  if s ∈ signsK 0 then 1 else if s ∈ signsK 1 then 2 else if s ∈ signsK 2 then 3 else if s ∈ signsK 3 then 4 else if s ∈ signsK 4 then 5 else 0
def plainR (s : List UInt8) : Bool := decide (0 < nameL s) && decide (nameL s = s.length) && !resv s
def numR (s : List UInt8) : Bool := match tokensL s with
  | .ok [t] => decide (t.1 = 1) && decide (t.2.1 = s)
  | _ => false

mutual
def exR : Nd → Bool
  | .mk kind name kids _ =>
    if kind = 9 then numR name && kids.isEmpty
    else if kind = 10 then plainR name && kids.isEmpty
    else if kind = 11 then name.isEmpty && exsR kids
    else if kind = 12 then (if kids.length = 1 then (decide (name = [45]) || decide (name = [33])) && exsR kids else decide (0 < levelS name) && decide (kids.length = 2) && exsR kids)
    else if kind = 13 then plainR name && shR [8] kids
    else if kind = 14 then name.isEmpty && decide (kids.length = 2) && exsR kids
    else if kind = 15 then name.isEmpty && decide (kids.length = 3) && exsR kids
    else false
def exsR : List Nd → Bool
  | [] => true
  | x :: r => exR x && exsR r
def stR : Nd → Bool
  | .mk kind name kids _ =>
    if kind = 6 then name.isEmpty && shR (if kids.length = 2 then [-1, 0] else [-1, 0, 0]) kids
    else plainR name &&
      if kind = 1 then shR [-1] kids
      else if kind = 2 then shR [4, 0] kids
      else if kind = 3 then shR [4, -1] kids
      else if kind = 5 then shR [-1, 0] kids
      else if kind = 7 then shR (if kids.length = 1 then [8] else [8, 0]) kids
      else false
def stsR : List Nd → Bool
  | [] => true
  | x :: r => stR x && stsR r
def parsR : List Nd → Bool
  | [] => true
  | x :: r => (decide (x.kind = 10) && exR x) && parsR r
def partR : Nd → Bool
  | .mk kind name kids _ => name.isEmpty && (if kind = 0 then stsR kids else if kind = 4 then parsR kids else exsR kids)
def shR : List Int → List Nd → Bool
  | [], [] => true
  | w :: ws, x :: r => (if w < 0 then exR x else decide (x.kind = w) && partR x) && shR ws r
  | _, _ => false
end

def checkR (l : List Nd) : Int := match deepL l 1 with
  | some _ => 3
  | none => if stsR l then 0 else 290

mutual
def szN : Nd → Nat
  | .mk _ _ kids _ => szL kids + 1
def szL : List Nd → Nat
  | [] => 0
  | x :: r => szN x + szL r
end
theorem szL_at : ∀ {l : List Nd} {i : Nat} {x : Nd}, l[i]? = some x → szN x ≤ szL l
  | [], i, x, hi => by simp at hi
  | u :: r, 0, x, hi => by
    simp at hi
    subst hi
    exact Nat.le_add_right _ _
  | u :: r, i + 1, x, hi => Nat.le_trans (szL_at (l := r) (i := i) (by simpa using hi)) (Nat.le_add_left _ _)
theorem kids_lt {l : List Nd} {i : Nat} {k : Int} {n : List UInt8} {kids : List Nd} {p : Int} (h : l[i]? = some (.mk k n kids p)) : szL kids < szL l := szL_at h
end Go.Proofs.YtpbkeamjdolpgaaGreatDoor
namespace Go.Proofs.YtpbkeamjdolpgaaGreatDoor
open Go.RowKit Go.Lib

theorem ret_node {R : Ending → World → Prop} {fn : Func} {p : Tmp} (hr : fn.results = #[.cell p 53]) {a : Act} {w : World} {g : Nat} {v0 v1 v2 v3 : Value} (hp : a.tmps.getD p undef = .pointer (some ⟨g, 0, none⟩)) (hd : a.defers = [])
    (c0 : w.cell? ⟨g, 0, none⟩ = some v0) (c1 : w.cell? ⟨g, 1, none⟩ = some v1) (c2 : w.cell? ⟨g, 2, none⟩ = some v2) (c3 : w.cell? ⟨g, 3, none⟩ = some v3) (h : R (.returned (.agg #[v0, v1, v2, v3])) w) : bodyPost Tryz.prog fn R .ret a w := by
  have hp' : a.tmps[p]?.getD undef = .pointer (some ⟨g, 0, none⟩) := by simpa using hp
  exact bodyPost_ret (v := .agg #[v0, v1, v2, v3]) (by simp [results, hr, hp', go_sem, c0, c1, c2, c3]) hd h
theorem ret_tok {R : Ending → World → Prop} {fn : Func} {p : Tmp} (hr : fn.results = #[.cell p 46]) {a : Act} {w : World} {g : Nat} {v0 v1 v2 : Value} (hp : a.tmps.getD p undef = .pointer (some ⟨g, 0, none⟩)) (hd : a.defers = [])
    (c0 : w.cell? ⟨g, 0, none⟩ = some v0) (c1 : w.cell? ⟨g, 1, none⟩ = some v1) (c2 : w.cell? ⟨g, 2, none⟩ = some v2) (h : R (.returned (.agg #[v0, v1, v2])) w) : bodyPost Tryz.prog fn R .ret a w := by
  have hp' : a.tmps[p]?.getD undef = .pointer (some ⟨g, 0, none⟩) := by simpa using hp
  exact bodyPost_ret (v := .agg #[v0, v1, v2]) (by simp [results, hr, hp', go_sem, c0, c1, c2]) hd h

set_option maxHeartbeats 4000000 in
set_option maxRecDepth 100000 in
theorem token_any (C : Ctx) (p : Nat) (w : World) (h : PSt C w p) :
    Calls Tryz.prog 102 #[.pointer (some ⟨C.pb, 0, none⟩)] w fun e w' => e = .returned (.agg #[.int .i64 (kindT C.ts p), .string ⟨(textT C.ts p).toArray⟩, .int .i64 (placeT C.ts C.s.size p)]) ∧ Below w.heap.size w w' := by
  obtain ⟨c0, c1, c2, _⟩ := h.cells
  have hpb := h.lt
  by_cases hp : p < C.ts.length
  · obtain ⟨t, ht⟩ : ∃ t, C.ts[p]? = some t := ⟨C.ts[p], List.getElem?_eq_getElem hp⟩
    obtain ⟨g, hx, k0, k1, k2⟩ := h.row p t ht
    rw [hx] at c1
    have hl := h.len
    have e1 : kindT C.ts p = t.1 := by unfold kindT; rw [ht]
    have e2 : textT C.ts p = t.2.1 := by unfold textT; rw [ht]
    have e3 : placeT C.ts C.s.size p = t.2.2 := by unfold placeT; rw [ht]
    rw [e1, e2, e3]
    have a0 : ∀ o, (w.alloc o).cell? ⟨C.pb, 0, none⟩ = some (.string C.s) := fun o => al_cell c0 o
    have a1 : ∀ o, (w.alloc o).cell? ⟨C.pb, 1, none⟩ = some (.slice (some ⟨g, 0, none⟩) C.ts.length C.c) := fun o => al_cell c1 o
    have a2 : ∀ o, (w.alloc o).cell? ⟨C.pb, 2, none⟩ = some (.int .i64 p) := fun o => al_cell c2 o
    have b0 : ∀ o, (w.alloc o).cell? ⟨g, p * 3, none⟩ = some (.int .i64 t.1) := fun o => al_cell k0 o
    have b1 : ∀ o, (w.alloc o).cell? ⟨g, p * 3 + 1, none⟩ = some (.string ⟨t.2.1.toArray⟩) := fun o => al_cell k1 o
    have b2 : ∀ o, (w.alloc o).cell? ⟨g, p * 3 + 2, none⟩ = some (.int .i64 t.2.2) := fun o => al_cell k2 o
    obtain ⟨n, hn⟩ : ∃ n, C.ts.length = n := ⟨_, rfl⟩
    rw [hn] at a1 hp hl
    have Q : decide ((p : Int) < (n : Int)) = true := by simp; omega
    clear h ht hx e1 e2 e3 c0 c1 c2 k0 k1 k2 hn
    go_enter Tryz.func102, Tryz.ntmps102
    go_wp2
    go_quiet (fail)
    go_wp2
    go_region
    go_wp2
    refine ret_tok rfl rfl rfl (by simp [go_sem]) (by simp [go_sem]) (by simp [go_sem]) ⟨rfl, ?_⟩
    exact ((((bdn ((Below.refl _ _).alloc (Nat.le_refl _) _) _).setCell (Nat.le_refl _) _).setCell (Nat.le_refl _) _).setCell (Nat.le_refl _) _)
  · have hnone : C.ts[p]? = none := List.getElem?_eq_none (by omega)
    have e1 : kindT C.ts p = -1 := by unfold kindT; rw [hnone]
    have e2 : textT C.ts p = [] := by unfold textT; rw [hnone]
    have e3 : placeT C.ts C.s.size p = C.s.size := by unfold placeT; rw [hnone]
    rw [e1, e2, e3]
    have a0 : ∀ o, (w.alloc o).cell? ⟨C.pb, 0, none⟩ = some (.string C.s) := fun o => al_cell c0 o
    have a1 : ∀ o, (w.alloc o).cell? ⟨C.pb, 1, none⟩ = some (.slice C.x C.ts.length C.c) := fun o => al_cell c1 o
    have a2 : ∀ o, (w.alloc o).cell? ⟨C.pb, 2, none⟩ = some (.int .i64 p) := fun o => al_cell c2 o
    obtain ⟨n, hn⟩ : ∃ n, C.ts.length = n := ⟨_, rfl⟩
    rw [hn] at a1 hp
    have Q : decide ((p : Int) < (n : Int)) = false := by simp; omega
    clear h hnone e1 e2 e3 c0 c1 c2 hn
    go_enter Tryz.func102, Tryz.ntmps102
    go_wp2
    go_quiet (fail)
    go_wp2
    refine ret_tok rfl rfl rfl (by simp [go_sem]) (by simp [go_sem]) (by simp [go_sem]) ⟨rfl, ?_⟩
    exact ((((bdn ((Below.refl _ _).alloc (Nat.le_refl _) _) _).setCell (Nat.le_refl _) _).setCell (Nat.le_refl _) _).setCell (Nat.le_refl _) _)

theorem fld0 (k q : Int) (t : ByteArray) (w : World) : (Instr.field 46 (.agg #[.int .i64 k, .string t, .int .i64 q]) 0).run Tryz.prog w = .ok (.int .i64 k) w := by kernel_rfl
theorem fld1 (k q : Int) (t : ByteArray) (w : World) : (Instr.field 46 (.agg #[.int .i64 k, .string t, .int .i64 q]) 1).run Tryz.prog w = .ok (.string t) w := by kernel_rfl
theorem fld2 (k q : Int) (t : ByteArray) (w : World) : (Instr.field 46 (.agg #[.int .i64 k, .string t, .int .i64 q]) 2).run Tryz.prog w = .ok (.int .i64 q) w := by kernel_rfl
end Go.Proofs.YtpbkeamjdolpgaaGreatDoor
namespace Go.Proofs.YtpbkeamjdolpgaaGreatDoor
open Go.RowKit Go.Lib

theorem str_ne {a b : List UInt8} (h : a ≠ b) : (a == b) = false := beq_eq_false_iff_ne.2 h
def StrRow (w : World) (g o : Nat) (l : List (List UInt8)) : Prop := ∀ j u, l[j]? = some u → w.cell? ⟨g, o + j, none⟩ = some (.string ⟨u.toArray⟩)
theorem StrRow.below {w w' : World} {g o : Nat} {l : List (List UInt8)} (h : StrRow w g o l) (hb : Below w.heap.size w w') : StrRow w' g o l :=
  fun j u hj => (hb.cell (p := ⟨g, o + j, none⟩) (World.block_lt_of_cell? w _ (h j u hj))).trans (h j u hj)

set_option maxHeartbeats 4000000 in
set_option maxRecDepth 100000 in
theorem index_any (l : List (List UInt8)) (n : Nat) (hl : l.length = n) (hn : n ≤ 4096) (g o c : Nat) (s : List UInt8) (w : World) (h : StrRow w g o l) :
    Calls Tryz.prog 228 #[.slice (some ⟨g, o, none⟩) n c, .string ⟨s.toArray⟩] w fun e w' => (∃ r : Int, e = .returned (.int .i64 r) ∧ decide (0 ≤ r) = decide (s ∈ l)) ∧ w = w' := by
  have H := Lib.hid h
  have HL := Lib.hid hl
  clear h hl
  go_enter Tryz.func228, Tryz.ntmps228
  go_wp2
  go_loopw [8] (fun v wx => ∃ i : Nat, v = .int .i64 i ∧ i ≤ n ∧ wx = w ∧ Hid (s ∉ l.take i)) (fun v _ => n - (RowKit.intOf v).toNat)
  case atStart => exact ⟨0, rfl, Nat.zero_le _, rfl, by simp [Hid]⟩
  case round =>
    obtain ⟨i, rfl, hi, rfl, hs⟩ := hrel
    by_cases hlt : i < n
    · obtain ⟨u, hu⟩ : ∃ u, l[i]? = some u := ⟨l[i]'(by have := HL.out; omega), List.getElem?_eq_getElem _⟩
      have k := H.out i u hu
      by_cases he : s = u
      · subst he
        have hm : s ∈ l := List.mem_of_getElem? hu
        have HM := Lib.hid hm
        clear hu hs hm
        go_wp2
        go_ret
        exact ⟨⟨i, rfl, by simp [HM.out]⟩, rfl⟩
      · have Q := str_ne he
        have hs2 : s ∉ l.take (i + 1) := by
          rw [List.take_add_one, hu]
          simp [hs.out, he]
        have HS := Lib.hid hs2
        clear hu hs hs2 he
        go_wp2
        go_roundw
        case rel => exact ⟨i + 1, by go_num, by omega, trivial, HS⟩
        case measure => simp [RowKit.intOf]; omega
    · have hm : s ∉ l := by
        have := hs.out
        rwa [List.take_of_length_le (by have := HL.out; omega)] at this
      have HM := Lib.hid hm
      clear hs hm
      go_wp2
      go_ret
      exact ⟨⟨-1, rfl, by simp [HM.out]⟩, rfl⟩
set_option maxHeartbeats 4000000 in
set_option maxRecDepth 100000 in
theorem contains_any (l : List (List UInt8)) (n : Nat) (hl : l.length = n) (hn : n ≤ 4096) (g o c : Nat) (s : List UInt8) (w : World) (h : StrRow w g o l) :
    Calls Tryz.prog 189 #[.slice (some ⟨g, o, none⟩) n c, .string ⟨s.toArray⟩] w fun e w' => e = .returned (.bool (decide (s ∈ l))) ∧ w = w' := by
  have ci := index_any l n hl hn g o c s w h
  obtain ⟨B, hB⟩ : ∃ B, decide (s ∈ l) = B := ⟨_, rfl⟩
  rw [hB] at ci ⊢
  clear h hB hl
  go_enter Tryz.func189, Tryz.ntmps189
  go_wp2_with (first | (go_at_call 228; (with_reducible refine ci.mono ?_); rintro e w1 ⟨⟨r, rfl, hr⟩, rfl⟩; clear ci))
  go_ret
  refine ⟨?_, rfl⟩
  rw [← hr]
  congr 2

def resvL : List (List UInt8) := [wModule, wFunction, wFor, wIf, wElse]
theorem resv_mem (s : List UInt8) : decide (s ∈ resvL) = resv s := by simp [resvL, resv, Bool.decide_or, Bool.or_assoc]
theorem five_row (w : World) (a b c d e : List UInt8) (t : TypeId) : StrRow (w.alloc (.cells #[.string ⟨a.toArray⟩, .string ⟨b.toArray⟩, .string ⟨c.toArray⟩, .string ⟨d.toArray⟩, .string ⟨e.toArray⟩] t)) w.heap.size 0 [a, b, c, d, e] := by
  intro j u hj
  match j, hj with
  | 0, hj => simp at hj; subst hj; simp
  | 1, hj => simp at hj; subst hj; simp
  | 2, hj => simp at hj; subst hj; simp
  | 3, hj => simp at hj; subst hj; simp
  | 4, hj => simp at hj; subst hj; simp
  | j + 5, hj => simp at hj
set_option maxHeartbeats 4000000 in
set_option maxRecDepth 100000 in
theorem reserved_any (s : List UInt8) (w : World) :
    Calls Tryz.prog 150 #[.string ⟨s.toArray⟩] w fun e w' => e = .returned (.bool (resv s)) ∧ Below w.heap.size w w' := by
  have cc := contains_any resvL 5 rfl (by omega) w.heap.size 0 5 s _ (five_row w wModule wFunction wFor wIf wElse 9)
  rw [resv_mem] at cc
  simp only [wModule, wFunction, wFor, wIf, wElse] at cc
  go_enter Tryz.func150, Tryz.ntmps150
  go_wp2_with (first | (go_at_call 189; (with_reducible refine cc.mono ?_); rintro e w1 ⟨rfl, rfl⟩; clear cc))
  go_ret
  exact ⟨rfl, (Below.refl _ _).alloc (Nat.le_refl _) _⟩
end Go.Proofs.YtpbkeamjdolpgaaGreatDoor
namespace Go.Proofs.YtpbkeamjdolpgaaGreatDoor

def Gd {A : Type} (n p : Nat) : Res A → Prop
  | .out => False
  | .bad q => q ≤ n
  | .ok _ q => p ≤ q ∧ q ≤ n
theorem Gd.bind {A B : Type} {n p p' : Nat} {R : Res A} {f : A → Nat → Res B} (h : Gd n p R) (k : ∀ a q, p ≤ q → q ≤ n → Gd n p' (f a q)) : Gd n p' (R.bind f) := by
  cases R with
  | out => exact h.elim
  | bad q => exact h
  | ok a q => exact k a q h.1 h.2
theorem Gd.mono {A : Type} {n p p' : Nat} {R : Res A} (h : Gd n p R) (hp : p' ≤ p) : Gd n p' R := by
  cases R with
  | out => exact h
  | bad q => exact h
  | ok a q => exact ⟨Nat.le_trans hp h.1, h.2⟩
theorem Gd.ne {A : Type} {n p : Nat} {R : Res A} (h : Gd n p R) : R ≠ .out := by
  intro e
  subst e
  exact h

section
variable {ts : List Tk} {L : Nat}
theorem kindT_lt {p : Nat} (h : kindT ts p ≠ -1) : p < ts.length := by
  apply Classical.byContradiction
  intro hn
  apply h
  unfold kindT
  rw [List.getElem?_eq_none (by omega)]
theorem isT_lt {p : Nat} {s : List UInt8} (h : isT ts p s = true) : p < ts.length := by
  apply kindT_lt
  intro hk
  unfold isT at h
  rw [hk] at h
  simp at h
theorem namedT_lt {p : Nat} (h : namedT ts p = true) : p < ts.length := by
  apply kindT_lt
  intro hk
  unfold namedT at h
  rw [hk] at h
  simp at h
theorem gd_take {p : Nat} (s : List UInt8) (hp : p ≤ ts.length) : Gd ts.length (p + 1) (takeP ts L s p) := by
  unfold takeP
  split
  · rename_i h
    exact ⟨Nat.le_refl _, isT_lt h⟩
  · exact hp
theorem gd_name {p : Nat} (hp : p ≤ ts.length) : Gd ts.length (p + 1) (nameP ts p) := by
  unfold nameP
  split
  · rename_i h
    exact ⟨Nat.le_refl _, namedT_lt h⟩
  · exact hp
theorem gd_nameN {p : Nat} (hp : p ≤ ts.length) : Gd ts.length (p + 1) (nameN ts L p) :=
  (gd_name hp).bind fun _ _ h1 h2 => ⟨h1, h2⟩
def Up (ts : List Tk) (b : Nat) (R : Nat → Res Nd) : Prop := ∀ p, b ≤ p → p ≤ ts.length → Gd ts.length (p + 1) (R p)

theorem gd_rowM {one : Nat → Res Nd} {e : List UInt8} : ∀ (f : Nat) (acc : List Nd) (q : Nat), q ≤ ts.length → ts.length - q < f → Up ts (q + 1) one → Gd ts.length (q + 1) (rowM ts L one f e acc q)
  | 0, _, _, _, h, _ => by omega
  | f + 1, acc, q, hq, hf, h1 => by
    unfold rowM
    split
    · rename_i h
      exact ⟨Nat.le_refl _, isT_lt h⟩
    · refine (gd_take [44] hq).bind fun _ r hr hr2 => ?_
      refine (h1 r (by omega) hr2).bind fun x r' hr' hr2' => ?_
      exact (gd_rowM f _ r' hr2' (by omega) (fun p hb hp => h1 p (by omega) hp)).mono (by omega)
theorem gd_rowG {one : Nat → Res Nd} {e : List UInt8} (f : Nat) (p : Nat) (hp : p ≤ ts.length) (hf : ts.length - p < f) (h1 : Up ts p one) : Gd ts.length (p + 1) (rowG ts L one f e p) := by
  unfold rowG
  split
  · rename_i h
    exact ⟨Nat.le_refl _, isT_lt h⟩
  · refine (h1 p (Nat.le_refl _) hp).bind fun x q hq hq2 => ?_
    exact (gd_rowM f _ q hq2 (by omega) (fun p' hb hp' => h1 p' (by omega) hp')).mono (by omega)
theorem gd_args {ex : Nat → Res Nd} (f : Nat) (p : Nat) (hp : p ≤ ts.length) (hf : ts.length - p < f) (h1 : Up ts (p + 1) ex) : Gd ts.length (p + 1) (argsO ts L ex f p) := by
  unfold argsO
  refine (gd_take [40] hp).bind fun a q hq hq2 => ?_
  refine (gd_rowG f q hq2 (by omega) (fun p' hb hp' => h1 p' (by omega) hp')).bind fun l r hr hr2 => ?_
  exact ⟨by omega, hr2⟩
theorem gd_params (f : Nat) (p : Nat) (hp : p ≤ ts.length) (hf : ts.length - p < f) : Gd ts.length (p + 1) (paramsP ts L f p) := by
  unfold paramsP
  refine (gd_take [40] hp).bind fun a q hq hq2 => ?_
  refine (gd_rowG f q hq2 (by omega) (fun p' hb hp' => gd_nameN hp')).bind fun l r hr hr2 => ?_
  exact ⟨by omega, hr2⟩
theorem gd_atom {ex : Nat → Res Nd} (f : Nat) (p : Nat) (hp : p ≤ ts.length) (hf : ts.length - p < f) (h1 : Up ts (p + 1) ex) : Gd ts.length (p + 1) (atomO ts L ex f p) := by
  unfold atomO
  split
  · rename_i h
    have := isT_lt h
    refine (h1 (p + 1) (by omega) this).bind fun x q hq hq2 => ?_
    exact (gd_take [41] hq2).bind fun _ e he he2 => ⟨by omega, he2⟩
  · split
    · rename_i h
      have := isT_lt h
      exact (gd_rowG f (p + 1) this (by omega) (fun p' hb hp' => h1 p' (by omega) hp')).bind fun l q hq hq2 => ⟨by omega, hq2⟩
    · split
      · rename_i h
        have := kindT_lt (ts := ts) (p := p) (by rw [h]; decide)
        exact ⟨Nat.le_refl _, this⟩
      · refine (gd_name hp).bind fun s q hq hq2 => ?_
        split
        · exact (gd_args f q hq2 (by omega) (fun p' hb hp' => h1 p' (by omega) hp')).bind fun a r hr hr2 => ⟨by omega, hr2⟩
        · exact ⟨hq, hq2⟩
theorem gd_index {ex : Nat → Res Nd} : ∀ (f : Nat) (x : Nd) (q : Nat), q ≤ ts.length → ts.length - q < f → Up ts (q + 1) ex → Gd ts.length q (indexL ts L ex f x q)
  | 0, _, _, _, h, _ => by omega
  | f + 1, x, q, hq, hf, h1 => by
    unfold indexL
    split
    · rename_i h
      have := isT_lt h
      refine (h1 (q + 1) (by omega) this).bind fun y r hr hr2 => ?_
      refine (gd_take [93] hr2).bind fun _ e he he2 => ?_
      exact (gd_index f _ e he2 (by omega) (fun p' hb hp' => h1 p' (by omega) hp')).mono (by omega)
    · exact ⟨Nat.le_refl _, hq⟩
theorem gd_unary {ex : Nat → Res Nd} {F : Nat} : ∀ (f : Nat) (p : Nat), p ≤ ts.length → ts.length - p < f → ts.length - p < F → Up ts (p + 1) ex → Gd ts.length (p + 1) (unaryL ts L ex F f p)
  | 0, _, _, h, _, _ => by omega
  | f + 1, p, hp, hf, hF, h1 => by
    unfold unaryL
    split
    · rename_i h
      have : p < ts.length := by
        rcases Bool.or_eq_true _ _ |>.mp h with h | h <;> exact isT_lt h
      refine (gd_unary f (p + 1) this (by omega) (by omega) (fun p' hb hp' => h1 p' (by omega) hp')).bind fun x q hq hq2 => ?_
      exact ⟨by omega, hq2⟩
    · refine (gd_atom F p hp hF h1).bind fun x q hq hq2 => ?_
      exact (gd_index F x q hq2 (by omega) (fun p' hb hp' => h1 p' (by omega) hp')).mono hq
theorem anyT_lt {p : Nat} {l : List (List UInt8)} (h : anyT ts p l = true) : p < ts.length := by
  unfold anyT at h
  obtain ⟨s, _, hs⟩ := List.any_eq_true.1 h
  exact isT_lt hs
theorem gd_levelM {tight : Nat → Res Nd} {k : Nat} : ∀ (f : Nat) (x : Nd) (q : Nat), q ≤ ts.length → ts.length - q < f → Up ts (q + 1) tight → Gd ts.length q (levelM ts L tight k f x q)
  | 0, _, _, _, h, _ => by omega
  | f + 1, x, q, hq, hf, h1 => by
    unfold levelM
    split
    · rename_i h
      have := anyT_lt h
      refine (h1 (q + 1) (by omega) this).bind fun y r hr hr2 => ?_
      split
      · exact ⟨by omega, hr2⟩
      · exact (gd_levelM f _ r hr2 (by omega) (fun p' hb hp' => h1 p' (by omega) hp')).mono (by omega)
    · exact ⟨Nat.le_refl _, hq⟩
theorem gd_level {tight : Nat → Res Nd} {k f p : Nat} (hp : p ≤ ts.length) (hf : ts.length - p < f) (h1 : Up ts p tight) : Gd ts.length (p + 1) (levelO ts L tight k f p) := by
  unfold levelO
  refine (h1 p (Nat.le_refl _) hp).bind fun x q hq hq2 => ?_
  exact (gd_levelM f x q hq2 (by omega) (fun p' hb hp' => h1 p' (by omega) hp')).mono hq
theorem gd_lev {ex : Nat → Res Nd} {f : Nat} : ∀ (d p : Nat), p ≤ ts.length → ts.length - p < f → Up ts (p + 1) ex → Gd ts.length (p + 1) (levO ts L ex f d p)
  | 0, p, hp, hf, h1 => gd_unary f p hp hf hf h1
  | d + 1, p, hp, hf, h1 => gd_level hp hf fun p' hb hp' => gd_lev d p' hp' (by omega) (fun p2 hb2 hp2 => h1 p2 (by omega) hp2)
theorem gd_exprO {ex : Nat → Res Nd} {f p : Nat} (hp : p ≤ ts.length) (hf : ts.length - p < f) (h1 : Up ts (p + 1) ex) : Gd ts.length (p + 1) (exprO ts L ex f p) := by
  unfold exprO
  refine (gd_lev 5 p hp hf h1).bind fun x q hq hq2 => ?_
  split
  · rename_i h
    have := isT_lt h
    refine (h1 (q + 1) (by omega) this).bind fun y r hr hr2 => ?_
    refine (gd_take [58] hr2).bind fun _ r' hr' hr2' => ?_
    refine (h1 r' (by omega) hr2').bind fun z e he he2 => ?_
    exact ⟨by omega, he2⟩
  · exact ⟨hq, hq2⟩
theorem gd_expr : ∀ (f p : Nat), p ≤ ts.length → ts.length - p + 1 < f → Gd ts.length (p + 1) (exprP ts L f p)
  | 0, _, _, h => by omega
  | f + 1, p, hp, hf => by
    exact gd_exprO hp (by omega) fun p' hb hp' => gd_expr f p' hp' (by omega)
theorem up_expr (f b : Nat) (h : ts.length - b + 1 < f) : Up ts b (exprP ts L f) := fun p hb hp => gd_expr f p hp (by omega)

theorem gd_blockL {st : Nat → Res Nd} : ∀ (f : Nat) (acc : List Nd) (q : Nat), q ≤ ts.length → ts.length - q < f → Up ts q st → Gd ts.length (q + 1) (blockL ts st f acc q)
  | 0, _, _, _, h, _ => by omega
  | f + 1, acc, q, hq, hf, h1 => by
    unfold blockL
    split
    · rename_i h
      exact ⟨Nat.le_refl _, isT_lt h⟩
    · refine (h1 q (Nat.le_refl _) hq).bind fun x r hr hr2 => ?_
      · exact (gd_blockL f _ r hr2 (by omega) (fun p' hb hp' => h1 p' (by omega) hp')).mono (by omega)
theorem gd_block {st : Nat → Res Nd} {f p : Nat} (hp : p ≤ ts.length) (hf : ts.length - p < f) (h1 : Up ts (p + 1) st) : Gd ts.length (p + 1) (blockO ts L st f p) := by
  unfold blockO
  refine (gd_take [123] hp).bind fun a q hq hq2 => ?_
  refine (gd_blockL f [] q hq2 (by omega) (fun p' hb hp' => h1 p' (by omega) hp')).bind fun l r hr hr2 => ?_
  exact ⟨by omega, hr2⟩
theorem gd_stmtO {ex st : Nat → Res Nd} {f p : Nat} (hp : p ≤ ts.length) (hf : ts.length - p < f) (hx : Up ts (p + 1) ex) (hs : Up ts (p + 1) st) : Gd ts.length (p + 1) (stmtO ts L ex st f p) := by
  have X : ∀ q, p + 1 ≤ q → q ≤ ts.length → Gd ts.length (q + 1) (ex q) := fun q h1 h2 => hx q (by omega) h2
  have B : ∀ q, p + 1 ≤ q → q ≤ ts.length → Gd ts.length (q + 1) (blockO ts L st f q) := fun q h1 h2 => gd_block h2 (by omega) (fun p' hb hp' => hs p' (by omega) hp')
  have P : ∀ q, p + 1 ≤ q → q ≤ ts.length → Gd ts.length (q + 1) (paramsP ts L f q) := fun q h1 h2 => gd_params f q h2 (by omega)
  unfold stmtO
  split
  · rename_i h
    have := isT_lt h
    refine (gd_name this).bind fun s q hq hq2 => (P q (by omega) hq2).bind fun x r hr hr2 => (B r (by omega) hr2).bind fun y e he he2 => ⟨by omega, he2⟩
  · split
    · rename_i h
      have := isT_lt h
      refine (gd_name this).bind fun s q hq hq2 => (P q (by omega) hq2).bind fun x r hr hr2 => (gd_take [61] hr2).bind fun _ r1 h1 h12 => (X r1 (by omega) h12).bind fun y r2 h2 h22 => (gd_take [59] h22).bind fun _ e he he2 => ⟨by omega, he2⟩
    · split
      · rename_i h
        have := isT_lt h
        refine (gd_take [40] this).bind fun _ q hq hq2 => (gd_name hq2).bind fun s r hr hr2 => (gd_take [61] hr2).bind fun _ r1 h1 h12 => (X r1 (by omega) h12).bind fun x r2 h2 h22 => (gd_take [41] h22).bind fun _ r3 h3 h32 => (B r3 (by omega) h32).bind fun y e he he2 => ⟨by omega, he2⟩
      · split
        · rename_i h
          have := isT_lt h
          refine (gd_take [40] this).bind fun _ q hq hq2 => (X q (by omega) hq2).bind fun x r hr hr2 => (gd_take [41] hr2).bind fun _ r1 h1 h12 => (B r1 (by omega) h12).bind fun y r2 h2 h22 => ?_
          split
          · rename_i h'
            have := isT_lt h'
            exact (B (r2 + 1) (by omega) this).bind fun z e he he2 => ⟨by omega, he2⟩
          · exact ⟨by omega, h22⟩
        · refine (gd_name hp).bind fun s q hq hq2 => ?_
          split
          · rename_i h'
            have := isT_lt h'
            exact (X (q + 1) (by omega) this).bind fun x r hr hr2 => (gd_take [59] hr2).bind fun _ e he he2 => ⟨by omega, he2⟩
          · refine (gd_args f q hq2 (by omega) (fun p' hb hp' => hx p' (by omega) hp')).bind fun x r hr hr2 => ?_
            split
            · exact (B r (by omega) hr2).bind fun y e he he2 => ⟨by omega, he2⟩
            · exact (gd_take [59] hr2).bind fun _ e he he2 => ⟨by omega, he2⟩
theorem gd_stmt {F : Nat} (hF : ts.length + 1 < F) : ∀ (f p : Nat), p ≤ ts.length → ts.length - p < f → Gd ts.length (p + 1) (stmtP ts L F f p)
  | 0, _, _, h => by omega
  | f + 1, p, hp, hf => by
    exact gd_stmtO hp (by omega) (up_expr F _ (by omega)) fun p' hb hp' => gd_stmt hF f p' hp' (by omega)
theorem gd_stmts {F : Nat} (hF : ts.length + 1 < F) : ∀ (f : Nat) (acc : List Nd) (q : Nat), q ≤ ts.length → ts.length - q < f → Gd ts.length q (stmtsP ts L F f acc q)
  | 0, _, _, _, h => by omega
  | f + 1, acc, q, hq, hf => by
    unfold stmtsP
    split
    · exact ⟨Nat.le_refl _, hq⟩
    · refine (gd_stmt hF F q hq (by omega)).bind fun x r hr hr2 => ?_
      exact (gd_stmts hF f _ r hr2 (by omega)).mono (by omega)
end
end Go.Proofs.YtpbkeamjdolpgaaGreatDoor
namespace Go.Proofs.YtpbkeamjdolpgaaGreatDoor
open Go.RowKit Go.Lib


set_option maxHeartbeats 4000000 in
set_option maxRecDepth 100000 in
theorem give_any (C : Ctx) (p : Nat) (w : World) (h : PSt C w p) :
    Calls Tryz.prog 159 #[.pointer (some ⟨C.pb, 0, none⟩)] w fun e w' => Dead w w' (270, placeT C.ts C.s.size p, textT C.ts p) e ∧ Below w.heap.size w w' := by
  have c := token_any C p w h
  clear h
  obtain ⟨k, hk⟩ : ∃ k, kindT C.ts p = k := ⟨_, rfl⟩
  obtain ⟨t, ht⟩ : ∃ t, textT C.ts p = t := ⟨_, rfl⟩
  obtain ⟨q, hq⟩ : ∃ q, placeT C.ts C.s.size p = q := ⟨_, rfl⟩
  rw [hk, ht, hq] at c
  rw [ht, hq]
  clear hk ht hq
  go_enter Tryz.func159, Tryz.ntmps159
  go_wp2_with (first | (go_at_call 102; (with_reducible refine c.mono ?_); rintro e w1 ⟨rfl, hb1⟩))
  exact ⟨rfl, ⟨w1.heap.size + 1, by have := hb1.size; omega, rfl, heap_alloc2_new w1 _ _⟩, ((hb1.alloc hb1.size _).alloc (by have := hb1.size; simp; omega) _)⟩

set_option maxHeartbeats 4000000 in
set_option maxRecDepth 100000 in
theorem is_any (C : Ctx) (p : Nat) (s : List UInt8) (w : World) (h : PSt C w p) :
    Calls Tryz.prog 111 #[.pointer (some ⟨C.pb, 0, none⟩), .string ⟨s.toArray⟩] w fun e w' => e = .returned (.bool (isT C.ts p s)) ∧ Below w.heap.size w w' := by
  have c := token_any C p w h
  have cr := reserved_any s
  clear h
  have hI : isT C.ts p s = (decide (textT C.ts p = s) && (decide (kindT C.ts p = 2) || (decide (kindT C.ts p = 0) && resv s))) := rfl
  obtain ⟨B, hB⟩ : ∃ B, isT C.ts p s = B := ⟨_, rfl⟩
  obtain ⟨k, hk⟩ : ∃ k, kindT C.ts p = k := ⟨_, rfl⟩
  obtain ⟨t, ht⟩ : ∃ t, textT C.ts p = t := ⟨_, rfl⟩
  obtain ⟨q, hq⟩ : ∃ q, placeT C.ts C.s.size p = q := ⟨_, rfl⟩
  obtain ⟨r, hr⟩ : ∃ r, resv s = r := ⟨_, rfl⟩
  rw [hB, hk, ht, hr] at hI
  rw [hk, ht, hq] at c
  rw [hr] at cr
  rw [hB]
  clear hB hk ht hq hr
  by_cases h1 : t = s
  · subst h1
    by_cases h2 : k = 2
    · subst h2
      have H : B = true := by simpa using hI
      subst H
      clear hI
      go_enter Tryz.func111, Tryz.ntmps111
      go_wp2_with (first | (go_at_call 102; (with_reducible refine c.mono ?_); rintro e w1 ⟨rfl, hb1⟩))
      go_ret
      exact ⟨rfl, hb1.alloc hb1.size _⟩
    · have Q2 : (k == 2) = false := beq_eq_false_iff_ne.2 h2
      by_cases h3 : k = 0
      · subst h3
        have H : B = r := by simpa using hI
        subst H
        clear hI
        go_enter Tryz.func111, Tryz.ntmps111
        go_wp2_with (first | (go_at_call 102; (with_reducible refine c.mono ?_); rintro e w1 ⟨rfl, hb1⟩) | (go_at_call 150; (with_reducible refine (cr _).mono ?_); rintro e w2 ⟨rfl, hb2⟩))
        go_ret
        exact ⟨rfl, tr (hb1.alloc hb1.size _) hb2⟩
      · have Q3 : (k == 0) = false := beq_eq_false_iff_ne.2 h3
        have H : B = false := by simpa [h2, h3] using hI
        subst H
        clear hI
        go_enter Tryz.func111, Tryz.ntmps111
        go_wp2_with (first | (go_at_call 102; (with_reducible refine c.mono ?_); rintro e w1 ⟨rfl, hb1⟩))
        go_ret
        exact ⟨rfl, hb1.alloc hb1.size _⟩
  · have Q1 := str_ne h1
    have H : B = false := by simpa [h1] using hI
    subst H
    clear hI
    go_enter Tryz.func111, Tryz.ntmps111
    go_wp2_with (first | (go_at_call 102; (with_reducible refine c.mono ?_); rintro e w1 ⟨rfl, hb1⟩))
    go_ret
    exact ⟨rfl, hb1.alloc hb1.size _⟩

set_option maxHeartbeats 4000000 in
set_option maxRecDepth 100000 in
theorem skip_any (C : Ctx) (p : Nat) (s : List UInt8) (w : World) (h : PSt C w p) :
    Calls Tryz.prog 104 #[.pointer (some ⟨C.pb, 0, none⟩), .string ⟨s.toArray⟩] w fun e w' =>
      (isT C.ts p s = true ∧ e = .returned (.bool true) ∧ PSt C w' (p + 1) ∧ Ow C.pb w w') ∨ (isT C.ts p s = false ∧ e = .returned (.bool false) ∧ Below w.heap.size w w') := by
  have c := is_any C p s w h
  cases hB : isT C.ts p s
  · rw [hB] at c
    clear h hB
    go_enter Tryz.func104, Tryz.ntmps104
    go_wp2_with (first | (go_at_call 111; (with_reducible refine c.mono ?_); rintro e w1 ⟨rfl, hb1⟩))
    go_ret
    exact .inr ⟨trivial, rfl, hb1⟩
  · rw [hB] at c
    have hp := isT_lt hB
    have hl := h.len
    have H := Lib.hid h
    have hS : ∀ w1, Below w.heap.size w w1 → w1.cell? ⟨C.pb, 2, none⟩ = some (.int .i64 p) ∧ w1.frozen? ⟨C.pb, 2, none⟩ = false ∧ Hid (PSt C w1 p) := fun w1 hb => ⟨(h.below hb).cells.2.2.1, (h.below hb).cells.2.2.2, h.below hb⟩
    have X1 : IntKind.i64.wrap ((p : Int) + 1) = ((p + 1 : Nat) : Int) := by rw [IntWalk.i64_in _ (by omega)]; simp
    obtain ⟨n, hn⟩ : ∃ n, C.ts.length = n := ⟨_, rfl⟩
    have HN := Lib.hid hn
    rw [hn] at hp hl
    clear h hB hn
    go_enter Tryz.func104, Tryz.ntmps104
    go_wp2_with (first | (go_at_call 111; (with_reducible refine c.mono ?_); rintro e w1 ⟨rfl, hb1⟩; obtain ⟨k1, k2, k3⟩ := hS w1 hb1))
    go_ret
    refine .inl ⟨trivial, rfl, ?_, (Ow.of_below hb1).setCell (a := ⟨C.pb, 2, none⟩) (.inl rfl) _⟩
    exact k3.out.step (q := p + 1) (by rw [HN.out]; omega)

set_option maxHeartbeats 4000000 in
set_option maxRecDepth 100000 in
theorem take_any (C : Ctx) (p : Nat) (s : List UInt8) (w : World) (h : PSt C w p) :
    Calls Tryz.prog 108 #[.pointer (some ⟨C.pb, 0, none⟩), .string ⟨s.toArray⟩] w (Fin C w (takeP C.ts C.s.size s p) fun a _ v => v = .int .i64 a) := by
  have F2 := fld2
  have c0 := token_any C p w h
  have c1 := fun w1 (hb : Below w.heap.size w w1) => skip_any C p s w1 (h.below hb)
  have c2 := fun w1 (hb : Below w.heap.size w w1) => give_any C p w1 (h.below hb)
  have hT : takeP C.ts C.s.size s p = if isT C.ts p s then .ok (placeT C.ts C.s.size p) (p + 1) else .bad p := rfl
  obtain ⟨q, hq⟩ : ∃ q, placeT C.ts C.s.size p = q := ⟨_, rfl⟩
  rw [hq] at c0 hT
  have H := Lib.hid h
  have HQ := Lib.hid hq
  cases hB : isT C.ts p s
  · rw [hB] at c1 hT
    have HT := Lib.hid hT
    clear h hB hq hT
    simp only [Bool.false_eq_true, false_and, false_or, true_and] at c1
    go_enter Tryz.func108, Tryz.ntmps108
    go_wp2_with (first | (go_at_call 102; (with_reducible refine c0.mono ?_); rintro e w1 ⟨rfl, hb1⟩) | (go_at_call 104; (with_reducible refine (c1 _ hb1).mono ?_); rintro e w2 ⟨rfl, hb2⟩) | (go_at_call 159; (with_reducible refine (c2 _ (tr hb1 hb2)).mono ?_); rintro e w3 ⟨⟨b, hd1, rfl, hd3⟩, hb3⟩))
    exact ⟨rfl, .inr ⟨p, HT.out, ⟨b, Nat.le_trans (tr hb1 hb2).size hd1, rfl, hd3⟩, Ow.of_below (tr (tr hb1 hb2) hb3)⟩⟩
  · rw [hB] at c1 hT
    have HT := Lib.hid hT
    clear h hB hq hT c2
    simp only [Bool.true_eq_false, false_and, or_false, true_and] at c1
    go_enter Tryz.func108, Tryz.ntmps108
    go_wp2_with (first | (go_at_call 102; (with_reducible refine c0.mono ?_); rintro e w1 ⟨rfl, hb1⟩) | (go_at_call 104; (with_reducible refine (c1 _ hb1).mono ?_); rintro e w2 ⟨rfl, hs2, hb2⟩; have HS2 := Lib.hid hs2; clear hs2))
    go_ret
    exact .inl ⟨_, _, _, HT.out, rfl, rfl, HS2.out, (Ow.of_below hb1).trans hb2⟩

set_option maxHeartbeats 4000000 in
set_option maxRecDepth 100000 in
theorem named_any (C : Ctx) (p : Nat) (w : World) (h : PSt C w p) :
    Calls Tryz.prog 158 #[.pointer (some ⟨C.pb, 0, none⟩)] w fun e w' => e = .returned (.bool (namedT C.ts p)) ∧ Below w.heap.size w w' := by
  have c := token_any C p w h
  have cr := reserved_any (textT C.ts p)
  clear h
  have hI : namedT C.ts p = (decide (kindT C.ts p = 0) && !resv (textT C.ts p)) := rfl
  obtain ⟨B, hB⟩ : ∃ B, namedT C.ts p = B := ⟨_, rfl⟩
  obtain ⟨k, hk⟩ : ∃ k, kindT C.ts p = k := ⟨_, rfl⟩
  obtain ⟨t, ht⟩ : ∃ t, textT C.ts p = t := ⟨_, rfl⟩
  obtain ⟨q, hq⟩ : ∃ q, placeT C.ts C.s.size p = q := ⟨_, rfl⟩
  rw [hB, hk, ht] at hI
  rw [hk, ht, hq] at c
  rw [ht] at cr
  rw [hB]
  obtain ⟨r, hr⟩ : ∃ r, resv t = r := ⟨_, rfl⟩
  rw [hr] at cr hI
  clear hB hk ht hq hr
  by_cases h3 : k = 0
  · subst h3
    have H : B = !r := by simpa using hI
    subst H
    clear hI
    go_enter Tryz.func158, Tryz.ntmps158
    go_wp2_with (first | (go_at_call 102; (with_reducible refine c.mono ?_); rintro e w1 ⟨rfl, hb1⟩) | (go_at_call 150; (with_reducible refine (cr _).mono ?_); rintro e w2 ⟨rfl, hb2⟩))
    go_ret
    exact ⟨rfl, tr (hb1.alloc hb1.size _) hb2⟩
  · have Q3 : (k == 0) = false := beq_eq_false_iff_ne.2 h3
    have H : B = false := by simpa [h3] using hI
    subst H
    clear hI
    go_enter Tryz.func158, Tryz.ntmps158
    go_wp2_with (first | (go_at_call 102; (with_reducible refine c.mono ?_); rintro e w1 ⟨rfl, hb1⟩))
    go_ret
    exact ⟨rfl, hb1.alloc hb1.size _⟩

set_option maxHeartbeats 4000000 in
set_option maxRecDepth 100000 in
theorem name_any (C : Ctx) (p : Nat) (w : World) (h : PSt C w p) :
    Calls Tryz.prog 105 #[.pointer (some ⟨C.pb, 0, none⟩)] w (Fin C w (nameP C.ts p) fun a _ v => v = .string ⟨a.toArray⟩) := by
  have c0 := named_any C p w h
  have c2 := fun w1 (hb : Below w.heap.size w w1) => give_any C p w1 (h.below hb)
  have hT : nameP C.ts p = if namedT C.ts p then .ok (textT C.ts p) (p + 1) else .bad p := rfl
  cases hB : namedT C.ts p
  · rw [hB] at c0 hT
    have HT := Lib.hid hT
    clear h hB hT
    go_enter Tryz.func105, Tryz.ntmps105
    go_wp2_with (first | (go_at_call 158; (with_reducible refine c0.mono ?_); rintro e w1 ⟨rfl, hb1⟩) | (go_at_call 159; (with_reducible refine (c2 _ hb1).mono ?_); rintro e w3 ⟨⟨b, hd1, rfl, hd3⟩, hb3⟩))
    exact ⟨rfl, .inr ⟨p, HT.out, ⟨b, Nat.le_trans hb1.size hd1, rfl, hd3⟩, Ow.of_below (tr hb1 hb3)⟩⟩
  · rw [hB] at c0 hT
    have hp := namedT_lt hB
    obtain ⟨t, ht⟩ : ∃ t, C.ts[p]? = some t := ⟨C.ts[p], List.getElem?_eq_getElem hp⟩
    have e2 : textT C.ts p = t.2.1 := by unfold textT; rw [ht]
    rw [e2] at hT
    have HT := Lib.hid hT
    have hl := h.len
    have X1 : IntKind.i64.wrap ((p : Int) + 1) = ((p + 1 : Nat) : Int) := by rw [IntWalk.i64_in _ (by omega)]; simp
    have X2 : IntKind.i64.wrap ((p : Int) + 1 - 1) = (p : Int) := by rw [IntWalk.i64_in _ (by omega)]; omega
    have X3 : IntKind.i64.wrap (p : Int) = (p : Int) := IntWalk.i64_in _ (by omega)
    obtain ⟨g, hx, _⟩ := h.row p t ht
    obtain ⟨n, hn⟩ : ∃ n, C.ts.length = n := ⟨_, rfl⟩
    have HN := Lib.hid hn
    have hS : ∀ w1, Below w.heap.size w w1 → w1.cell? ⟨C.pb, 2, none⟩ = some (.int .i64 p) ∧ w1.frozen? ⟨C.pb, 2, none⟩ = false ∧ w1.cell? ⟨C.pb, 1, none⟩ = some (.slice (some ⟨g, 0, none⟩) n C.c) ∧
        (w1.setCell ⟨C.pb, 2, none⟩ (.int .i64 ((p : Int) + 1))).cell? ⟨g, p * 3 + 1, none⟩ = some (.string ⟨t.2.1.toArray⟩) ∧ Hid (PSt C (w1.setCell ⟨C.pb, 2, none⟩ (.int .i64 ((p : Int) + 1))) (p + 1)) := fun w1 hb => by
      have h1 := h.below hb
      have h2 : PSt C (w1.setCell ⟨C.pb, 2, none⟩ (.int .i64 ((p : Int) + 1))) (p + 1) := h1.step hp
      obtain ⟨g', hx', j0, j1, j2⟩ := h2.row p t ht
      rw [hx] at hx'
      cases hx'
      refine ⟨h1.cells.2.2.1, h1.cells.2.2.2, ?_, j1, h2⟩
      rw [← hx, ← hn]
      exact h1.cells.2.1
    rw [hn] at hp hl
    clear h hB hT ht e2 hx hn c2
    go_enter Tryz.func105, Tryz.ntmps105
    go_wp2_with (first | (go_at_call 158; (with_reducible refine c0.mono ?_); rintro e w1 ⟨rfl, hb1⟩; obtain ⟨k1, k2, k3, k4, k5⟩ := hS w1 hb1))
    go_quiet (fail)
    go_wp2
    go_ret
    exact .inl ⟨_, _, _, HT.out, rfl, rfl, (k5.out.below (bdn (Below.refl _ _) _)), ((Ow.of_below hb1).setCell (a := ⟨C.pb, 2, none⟩) (.inl rfl) _).drewN _⟩
end Go.Proofs.YtpbkeamjdolpgaaGreatDoor
namespace Go.Proofs.YtpbkeamjdolpgaaGreatDoor
open Go.RowKit Go.Lib Go.Shelf

theorem Tryz.infoNode : (Tryz.prog.info? 53).map (fun i => (i.zero, i.size, i.bytes)) = some (some (.agg #[.int .i64 0, .string ⟨#[]⟩, .slice none 0 0, .int .i64 0]), 4, 56) := by kernel_rfl
theorem cell_four_new (w : World) (a b c d : Value) (t : TypeId) : ∀ j u, [a, b, c, d][j]? = some u → (w.alloc (.cells #[a, b, c, d] t)).cell? ((⟨w.heap.size, 0, none⟩ : Addr).add j) = some u := by
  intro j u hj
  match j, hj with
  | 0, hj => simp at hj; subst hj; simp [Addr.add]
  | 1, hj => simp at hj; subst hj; simp [Addr.add]
  | 2, hj => simp at hj; subst hj; simp [Addr.add]
  | 3, hj => simp at hj; subst hj; simp [Addr.add]
  | j + 4, hj => simp at hj
def DeadF (C : Ctx) (w w' : World) (q : Nat) (e : Ending) : Prop :=
  ∃ b, w.heap.size ≤ b ∧ e = .panicked [{ v := .iface 23 (.pointer (some ⟨b, 0, none⟩)), recovered := false }] ∧ w'.heap[b]? = some (.cells #[.int .i64 270, .int .i64 (placeT C.ts C.s.size q), .string ⟨(textT C.ts q).toArray⟩] 61 (0, 0)) ∧ Ow C.pb w w'
def FinN (C : Ctx) (w : World) (R : Res Nd) (e : Ending) (w' : World) : Prop :=
  (∃ k n, ∃ kids : List Nd, ∃ p y, ∃ c : Cp kids.length, ∃ q, R = .ok (.mk k n kids p) q ∧ e = .returned (.agg #[.int .i64 k, .string ⟨n.toArray⟩, .slice y kids.length c, .int .i64 p]) ∧ NdRow w' (fun b => w.heap.size ≤ b) kids y ∧ PSt C w' q ∧ Ow C.pb w w') ∨
  (∃ q, R = .bad q ∧ DeadF C w w' q e)
def FinR (C : Ctx) (w : World) (R : Res (List Nd)) (e : Ending) (w' : World) : Prop :=
  (∃ l v q, R = .ok l q ∧ e = .returned v ∧ RowOwn w' w.heap.size v l ∧ PSt C w' q ∧ Ow C.pb w w') ∨
  (∃ q, R = .bad q ∧ DeadF C w w' q e)
theorem DeadF.from {C : Ctx} {w w1 w' : World} {q : Nat} {e : Ending} (h : DeadF C w1 w' q e) (ho : Ow C.pb w w1) : DeadF C w w' q e := by
  obtain ⟨b, h1, h2, h3, h4⟩ := h
  exact ⟨b, Nat.le_trans ho.size h1, h2, h3, ho.trans h4⟩
theorem take_fin (C : Ctx) (p : Nat) (s : List UInt8) (w : World) (h : PSt C w p) :
    Calls Tryz.prog 108 #[.pointer (some ⟨C.pb, 0, none⟩), .string ⟨s.toArray⟩] w fun e w' =>
      (∃ q, takeP C.ts C.s.size s p = .ok (placeT C.ts C.s.size p) q ∧ e = .returned (.int .i64 (placeT C.ts C.s.size p)) ∧ PSt C w' q ∧ Ow C.pb w w') ∨ (takeP C.ts C.s.size s p = .bad p ∧ DeadF C w w' p e) := by
  refine (take_any C p s w h).mono ?_
  have hT : takeP C.ts C.s.size s p = if isT C.ts p s then .ok (placeT C.ts C.s.size p) (p + 1) else .bad p := rfl
  rintro e w' (⟨a, q, v, hR, rfl, rfl, hs, ho⟩ | ⟨q, hR, ⟨b, h1, rfl, h3⟩, ho⟩)
  · have : a = placeT C.ts C.s.size p := by
      rw [hT] at hR
      split at hR
      · cases hR; rfl
      · cases hR
    subst this
    exact .inl ⟨q, hR, rfl, hs, ho⟩
  · have : q = p := by
      rw [hT] at hR
      split at hR
      · cases hR
      · cases hR; rfl
    subst this
    exact .inr ⟨hR, b, h1, rfl, h3, ho⟩
theorem name_fin (C : Ctx) (p : Nat) (w : World) (h : PSt C w p) :
    Calls Tryz.prog 105 #[.pointer (some ⟨C.pb, 0, none⟩)] w fun e w' =>
      (∃ q, nameP C.ts p = .ok (textT C.ts p) q ∧ e = .returned (.string ⟨(textT C.ts p).toArray⟩) ∧ PSt C w' q ∧ Ow C.pb w w') ∨ (nameP C.ts p = .bad p ∧ DeadF C w w' p e) := by
  refine (name_any C p w h).mono ?_
  have hT : nameP C.ts p = if namedT C.ts p then .ok (textT C.ts p) (p + 1) else .bad p := rfl
  rintro e w' (⟨a, q, v, hR, rfl, rfl, hs, ho⟩ | ⟨q, hR, ⟨b, h1, rfl, h3⟩, ho⟩)
  · have : a = textT C.ts p := by
      rw [hT] at hR
      split at hR
      · cases hR; rfl
      · cases hR
    subst this
    exact .inl ⟨q, hR, rfl, hs, ho⟩
  · have : q = p := by
      rw [hT] at hR
      split at hR
      · cases hR
      · cases hR; rfl
    subst this
    exact .inr ⟨hR, b, h1, rfl, h3, ho⟩

def OneC (C : Ctx) (F : Nat) (args : Array Value) (I : World → Prop) (one : Nat → Res Nd) : Prop :=
  ∀ (w : World) (p : Nat), PSt C w p → I w → one p ≠ .out → Calls Tryz.prog F args w (FinN C w (one p))

theorem RowOwn.one {w : World} {B : Nat} (hB : B ≤ w.heap.size) {k : Int} {n : List UInt8} {kids : List Nd} {p : Int} {y : Option Addr} {c : Cp kids.length} (h : NdRow w (fun b => B ≤ b) kids y) :
    RowOwn (w.alloc (.cells #[.int .i64 k, .string ⟨n.toArray⟩, .slice y kids.length c, .int .i64 p] 53)) B (.slice (some ⟨w.heap.size, 0, none⟩) 1 1) [.mk k n kids p] := by
  refine ⟨[.int .i64 k, .string ⟨n.toArray⟩, .slice y kids.length c, .int .i64 p], ⟨rfl, .inr ⟨w.heap.size, 1, _, rfl, hB, heap_alloc_new w _, by simp, by unfold maxLen; omega, rfl, rfl⟩⟩, NFlat.one ⟨y, c, rfl, ?_⟩⟩
  refine NdRow.mono (fun b h1 h2 => ⟨h1, ?_⟩) (fun b _ h2 => Below.heap_alloc w _ b h2) _ _ h
  simp [Value.ownBlock]
  omega
theorem rowM_step {C : Ctx} {one : Nat → Res Nd} {g : Nat} {e : List UInt8} {acc : List Nd} {q : Nat} (hB : isT C.ts q e = false) : rowM C.ts C.s.size one (g + 1) e acc q = (takeP C.ts C.s.size [44] q).bind fun _ r => (one r).bind fun x r' => rowM C.ts C.s.size one g e (acc ++ [x]) r' := by
  rw [rowM, hB]
  rfl
theorem rowM_end {C : Ctx} {one : Nat → Res Nd} {g : Nat} {e : List UInt8} {acc : List Nd} {q : Nat} (hB : isT C.ts q e = true) : rowM C.ts C.s.size one (g + 1) e acc q = .ok acc (q + 1) := by
  rw [rowM, hB]
  rfl

set_option maxHeartbeats 4000000 in
set_option maxRecDepth 100000 in
theorem row_any (C : Ctx) (F : Nat) (first cap : Array Value) (I : World → Prop) (hI : ∀ w w', I w → Ow C.pb w w' → I w') (eg : ∀ args w, (callFunc F args).run Tryz.prog w = .ok (.enter F args) w) (one : Nat → Res Nd) (h1 : OneC C F (first ++ cap) I one)
    (f : Nat) (hf : f ≤ 8192) (e : List UInt8) (p : Nat) (w : World) (h : PSt C w p) (hi : I w) (hne : rowG C.ts C.s.size one f e p ≠ .out) :
    Calls Tryz.prog 160 #[.pointer (some ⟨C.pb, 0, none⟩), .string ⟨e.toArray⟩, .func (.func F) first cap] w (FinR C w (rowG C.ts C.s.size one f e p)) := by
  have hT : rowG C.ts C.s.size one f e p = if isT C.ts p e then .ok [] (p + 1) else (one p).bind fun x q => rowM C.ts C.s.size one f e [x] q := rfl
  have c0 := skip_any C p e w h
  obtain ⟨R, hR⟩ : ∃ R, rowG C.ts C.s.size one f e p = R := ⟨_, rfl⟩
  rw [hR] at hT hne ⊢
  have cS : ∀ w1 q, PSt C w1 q → _ := fun w1 q hs => skip_any C q e w1 hs
  have cT : ∀ w1 q, PSt C w1 q → _ := fun w1 q hs => take_fin C q [44] w1 hs
  have hpb := h.lt
  have HT := Lib.hid hT
  have H0 := Lib.hid h
  obtain ⟨i0, hi0, hz0, hz1, hz2⟩ := info_parts Tryz.infoNode
  have hisT : isT C.ts p e = false → R = (one p).bind fun x q => rowM C.ts C.s.size one f e [x] q := fun hB => by rw [hT, hB]; rfl
  have hisE : isT C.ts p e = true → R = .ok [] (p + 1) := fun hB => by rw [hT, hB]; rfl
  have c1 : ∀ w1, Below w.heap.size w w1 → isT C.ts p e = false → Calls Tryz.prog F (first ++ cap) w1 (FinN C w1 (one p)) := fun w1 hb hB =>
    h1 w1 p (h.below hb) (hI _ _ hi (Ow.of_below hb)) fun ho => by
      have := hisT hB
      rw [ho] at this
      exact hne this
  have c4 : ∀ w1 r, PSt C w1 r → Ow C.pb w w1 → one r ≠ .out → Calls Tryz.prog F (first ++ cap) w1 (FinN C w1 (one r)) := fun w1 r hs ho hn => h1 w1 r hs (hI _ _ hi ho) hn
  have HE := Lib.hid hisE
  have HS := Lib.hid hisT
  have HN := Lib.hid hne
  clear hT hR hisT hisE hne h h1 hi
  go_enter Tryz.func160, Tryz.ntmps160
  go_wp2_with (first | (go_at_call 104; (with_reducible refine c0.mono ?_); rintro e w1 (⟨hB, rfl, hs1, ho1⟩ | ⟨hB, rfl, hb1⟩); clear c0) | (go_at_fn F; (with_reducible refine (c1 _ hb1 hB).mono ?_); rintro e w2 (⟨k, n, kids, pp, y, c, q, hr2, rfl, hk2, hs2, ho2⟩ | ⟨q, hr2, b, hd1, rfl, hd3, hd4⟩)))
  · go_ret
    exact .inl ⟨[], _, p + 1, HE.out hB, rfl, RowOwn.nil _ _, hs1, ho1⟩
  · have ho12 := (Ow.of_below hb1).trans ho2
    have hR := HS.out hB
    rw [hr2] at hR
    have HR := Lib.hid hR
    have hrow0 := RowOwn.one (B := w.heap.size) ho12.size (k := k) (n := n) (p := pp) (c := c) (hk2.wide fun b h1 _ => Nat.le_trans hb1.size h1)
    have HROW := Lib.hid hrow0
    have hs2' := hs2.below ((Below.refl _ _).alloc (Nat.le_refl _) (.cells #[.int .i64 k, .string ⟨n.toArray⟩, .slice y kids.length c, .int .i64 pp] 53))
    have HP := Lib.hid hs2'
    have HO := Lib.hid (ho12.alloc (.cells #[.int .i64 k, .string ⟨n.toArray⟩, .slice y kids.length c, .int .i64 pp] 53))
    clear hB hr2 hk2 hs2 c1 hR hrow0 hs2' hb1 ho2 ho12 HE HS HT
    go_loopg [7] f (fun g v wx => ∃ (acc : List Nd) (q : Nat), RowOwn wx w.heap.size v acc ∧ PSt C wx q ∧ Ow C.pb w wx ∧ Hid (rowM C.ts C.s.size one g e acc q = R) ∧ acc.length + g ≤ f + 1)
    case atStart => exact ⟨[.mk k n kids pp], q, HROW.out, HP.out, HO.out, HR.out.symm, by simp; omega⟩
    case round =>
      clear HROW HP HO HR
      obtain ⟨acc, q, hrow, hs, ho, hS, hlen⟩ := hrel
      obtain ⟨g', rfl⟩ : ∃ g', gk = g' + 1 := by
        cases gk with
        | zero => exact absurd hS.out.symm HN.out
        | succ g' => exact ⟨g', rfl⟩
      have HNE : Hid (∀ r a, isT C.ts q e = false → takeP C.ts C.s.size [44] q = .ok a r → one r ≠ .out) := fun r a hB hr hq => HN.out (by rw [← hS.out, rowM_step hB, hr]; simp [Res.bind, hq])
      obtain ⟨va, vc, rfl, _, _⟩ := hrow.shape
      have HROW := Lib.hid hrow
      have hal : acc.length ≤ 8192 := by omega
      have hwsz := ho.size
      have HLEN := Lib.hid hlen
      clear hrow hlen
      go_wp2_with (first | (go_at_call 104; (with_reducible refine (cS _ _ hs).mono ?_); rintro e w3 (⟨hB, rfl, hs3, ho3⟩ | ⟨hB, rfl, hb3⟩); clear cS) | (go_at_call 108; (with_reducible refine (cT _ _ (hs.below hb3)).mono ?_); rintro e w4 (⟨r, hr4, rfl, hs4, ho4⟩ | ⟨hr4, b, hd1, rfl, hd3, hd4⟩); clear cT) | (go_at_fn F; (with_reducible refine (c4 _ _ hs4 (ho.trans ((Ow.of_below hb3).trans ho4)) (HNE.out _ _ hB hr4)).mono ?_); rintro e w5 (⟨k, n, kids, pp, y, c, q5, hr5, rfl, hk5, hs5, ho5⟩ | ⟨q5, hr5, b, hd1, rfl, hd3, hd4⟩)) | (at_builtin; obtain ⟨xs, hown5, hfl5⟩ := HROW.out.ow ((Ow.of_below hb3).trans (ho4.trans ho5)) hpb; refine wpList_append_fresh _ rfl (.tmp 20) (.tmp 23) 22 rfl (w.heap.size) 53 i0 (.agg #[.int .i64 0, .string ⟨#[]⟩, .slice none 0 0, .int .i64 0]) 4 56 Tryz.underlying22 hi0 hz0 hz1 hz2 rfl (by decide) _ _ _ rfl (hown5.alloc _) ⟨w5.heap.size, 0, none⟩ 1 1 [.int .i64 k, .string ⟨n.toArray⟩, .slice y kids.length c, .int .i64 pp] rfl rfl (cell_four_new _ _ _ _ _ _) (fun x hx => by simp at hx; rcases hx with rfl | rfl | rfl | rfl <;> rfl) (by unfold maxLen; omega) (by omega) (by have := hb3.size; have := ho4.size; have := ho5.size; simp; omega) ?_; intro v' w6 hown' hgrow hfresh))
      · go_ret
        exact .inl ⟨acc, _, q + 1, by rw [← hS.out, rowM_end hB], rfl, HROW.out.ow ho3 hpb, hs3, ho.trans ho3⟩
      · have ho5' := ho.trans ((Ow.of_below hb3).trans (ho4.trans ho5))
        have hlt5 := fun j hj => ((hown5.alloc (.cells #[.int .i64 k, .string ⟨n.toArray⟩, .slice y kids.length c, .int .i64 pp] 53)).lt j hj).1
        have hR := hS.out
        rw [rowM_step hB, hr4] at hR
        simp only [Res.bind] at hR
        rw [hr5] at hR
        have hR' : rowM C.ts C.s.size one g' e (acc ++ [.mk k n kids pp]) q5 = R := hR
        have hlen := HLEN.out
        have hsz := ho5'.size
        go_roundg g'
        case measure => omega
        case rel =>
          refine ⟨acc ++ [.mk k n kids pp], q5, ?_, ?_, (ho5'.alloc _).grown hgrow hlt5, Lib.hid hR', by simp; omega⟩
          · refine RowOwn.snoc (a := [.int .i64 k, .string ⟨n.toArray⟩, .slice y kids.length c, .int .i64 pp]) (NFlat.mono (fun b h1 _ => h1) (fun b _ h2 => Below.heap_alloc _ _ b h2) hfl5) ⟨y, c, rfl, ?_⟩ hown' hgrow hfresh
            refine NdRow.mono (fun b h1 h2 => ⟨by have := ho.size; have := hb3.size; have := ho4.size; omega, fun e => ?_⟩) (fun b _ h2 => Below.heap_alloc _ _ b h2) _ _ hk5
            have hlt3 := (HROW.out.below hb3)
            obtain ⟨xs3, hown3, _⟩ := hlt3
            have := (hown3.lt b e.symm).2
            have := ho4.size
            omega
          · refine H0.out.keep hs5 fun j hj => ?_
            rw [hgrow.block j (by simp; omega) (fun e => by have := hlt5 j e.symm; omega)]
            exact Below.heap_alloc _ _ j (by omega)
      · refine ⟨rfl, .inr ⟨q5, ?_, b, ?_, rfl, hd3, ho.trans ((Ow.of_below hb3).trans (ho4.trans hd4))⟩⟩
        · rw [← hS.out, rowM_step hB, hr4]
          simp only [Res.bind]
          rw [hr5]
        · have := hb3.size
          have := ho4.size
          omega
      · refine ⟨rfl, .inr ⟨q, ?_, b, ?_, rfl, hd3, ho.trans ((Ow.of_below hb3).trans hd4)⟩⟩
        · rw [← hS.out, rowM_step hB, hr4]
          rfl
        · have := hb3.size
          omega
  · exact ⟨rfl, .inr ⟨q, by rw [HS.out hB, hr2]; rfl, b, Nat.le_trans hb1.size hd1, rfl, hd3, (Ow.of_below hb1).trans hd4⟩⟩
end Go.Proofs.YtpbkeamjdolpgaaGreatDoor
namespace Go.Proofs.YtpbkeamjdolpgaaGreatDoor
open Go.RowKit Go.Lib Go.Shelf

def Kp (n : Nat) (w1 w2 : World) : Prop := ∀ k, k < n → w2.heap[k]? = w1.heap[k]?
theorem Kp.refl (n : Nat) (w : World) : Kp n w w := fun _ _ => rfl
theorem Kp.setCell {n : Nat} {w1 w2 : World} (h : Kp n w1 w2) {a : Addr} (ha : n ≤ a.block) (v : Value) : Kp n w1 (w2.setCell a v) := fun k hk => (Below.heap_setCell w2 a v k (by omega)).trans (h k hk)
theorem Kp.alloc {n : Nat} {w1 w2 : World} (h : Kp n w1 w2) (hn : n ≤ w2.heap.size) (o : Obj) : Kp n w1 (w2.alloc o) := fun k hk => (Below.heap_alloc w2 o k (by omega)).trans (h k hk)
theorem Ow.set {b : Nat} {w w1 : World} (h : Ow b w w1) {k o : Nat} (hk : w.heap.size ≤ k) {v : Value} : Ow b w (w1.setCell ⟨k, o, none⟩ v) := h.setCell (.inr hk) v
theorem Ow.set4 {b : Nat} {w w1 : World} (h : Ow b w w1) {k : Nat} (hk : w.heap.size ≤ k) {v0 v1 v2 v3 : Value} : Ow b w ((((w1.setCell ⟨k, 0, none⟩ v0).setCell ⟨k, 1, none⟩ v1).setCell ⟨k, 2, none⟩ v2).setCell ⟨k, 3, none⟩ v3) := (((h.set hk).set hk).set hk).set hk
theorem Kp.set {n : Nat} {w1 w2 : World} (h : Kp n w1 w2) {k o : Nat} (hk : n ≤ k) {v : Value} : Kp n w1 (w2.setCell ⟨k, o, none⟩ v) := h.setCell (a := ⟨k, o, none⟩) hk v
theorem Kp.set4 {n : Nat} {w1 w2 : World} (h : Kp n w1 w2) {k : Nat} (hk : n ≤ k) {v0 v1 v2 v3 : Value} : Kp n w1 ((((w2.setCell ⟨k, 0, none⟩ v0).setCell ⟨k, 1, none⟩ v1).setCell ⟨k, 2, none⟩ v2).setCell ⟨k, 3, none⟩ v3) := (((h.set hk).set hk).set hk).set hk
theorem NdRow.set {w1 : World} {ok : Nat → Prop} {l : List Nd} {y : Option Addr} (h : NdRow w1 ok l y) {k o : Nat} (hk : ∀ b, ok b → b ≠ k) {v : Value} : NdRow (w1.setCell ⟨k, o, none⟩ v) ok l y :=
  NdRow.mono (fun _ h _ => h) (fun b h1 _ => Below.heap_setCell w1 _ v b (hk b h1)) _ _ h
theorem NdRow.set4 {w1 : World} {ok : Nat → Prop} {l : List Nd} {y : Option Addr} (h : NdRow w1 ok l y) {k : Nat} (hk : ∀ b, ok b → b ≠ k) {v0 v1 v2 v3 : Value} : NdRow ((((w1.setCell ⟨k, 0, none⟩ v0).setCell ⟨k, 1, none⟩ v1).setCell ⟨k, 2, none⟩ v2).setCell ⟨k, 3, none⟩ v3) ok l y :=
  (((h.set hk).set hk).set hk).set hk
theorem NdRow.alloc {w1 : World} {ok : Nat → Prop} {l : List Nd} {y : Option Addr} (h : NdRow w1 ok l y) (o : Obj) : NdRow (w1.alloc o) ok l y := h.below ((Below.refl _ _).alloc (Nat.le_refl _) _)
def Box4 (w : World) (b : Nat) (v0 v1 v2 v3 : Value) : Prop := w.heap[b]? = some (.cells #[v0, v1, v2, v3] 53 (0, 0))
def BoxF (w : World) (b : Nat) (v0 v1 v2 v3 : Value) : Prop := w.cell? ⟨b, 0, none⟩ = some v0 ∧ w.cell? ⟨b, 1, none⟩ = some v1 ∧ w.cell? ⟨b, 2, none⟩ = some v2 ∧ w.cell? ⟨b, 3, none⟩ = some v3 ∧ ∀ o, w.frozen? ⟨b, o, none⟩ = false
theorem Box4.facts {w : World} {b : Nat} {v0 v1 v2 v3 : Value} (h : Box4 w b v0 v1 v2 v3) : BoxF w b v0 v1 v2 v3 := by
  unfold Box4 at h
  refine ⟨?_, ?_, ?_, ?_, fun o => ?_⟩ <;> simp [World.cell?, World.frozen?, h]
theorem Box4.new (w : World) (v0 v1 v2 v3 : Value) : Box4 (w.alloc (.cells #[v0, v1, v2, v3] 53)) w.heap.size v0 v1 v2 v3 := heap_alloc_new w _
theorem Box4.lt {w : World} {b : Nat} {v0 v1 v2 v3 : Value} (h : Box4 w b v0 v1 v2 v3) : b < w.heap.size := (Array.getElem?_eq_some_iff.1 h).1
theorem Box4.ow {w w' : World} {b pb : Nat} {v0 v1 v2 v3 : Value} (h : Box4 w b v0 v1 v2 v3) (ho : Ow pb w w') (hn : b ≠ pb) : Box4 w' b v0 v1 v2 v3 := (ho.block b h.lt hn).trans h
theorem Box4.below {w w' : World} {b : Nat} {v0 v1 v2 v3 : Value} (h : Box4 w b v0 v1 v2 v3) (ho : Below w.heap.size w w') : Box4 w' b v0 v1 v2 v3 := (ho.block b h.lt).trans h

def BoxX (w : World) (b : Nat) (v0 v1 v2 v3 : Value) : Prop := BoxF w b v0 v1 v2 v3 ∧ Hid (Box4 w b v0 v1 v2 v3)
theorem Box4.x {w w' : World} {b pb : Nat} {v0 v1 v2 v3 : Value} (h : Box4 w b v0 v1 v2 v3) (ho : Ow pb w w') (hn : b ≠ pb) : BoxX w' b v0 v1 v2 v3 := ⟨(h.ow ho hn).facts, h.ow ho hn⟩
theorem Box4.other {w : World} {b k o : Nat} {v v0 v1 v2 v3 : Value} (h : Box4 w b v0 v1 v2 v3) (hn : b ≠ k) : Box4 (w.setCell ⟨k, o, none⟩ v) b v0 v1 v2 v3 := (Below.heap_setCell w _ v b hn).trans h
theorem Box4.alloc {w : World} {b : Nat} {v0 v1 v2 v3 : Value} (h : Box4 w b v0 v1 v2 v3) (o : Obj) : Box4 (w.alloc o) b v0 v1 v2 v3 := (Below.heap_alloc w o b h.lt).trans h
theorem Box4.set0 {w : World} {b : Nat} {v v0 v1 v2 v3 : Value} (h : Box4 w b v0 v1 v2 v3) : Box4 (w.setCell ⟨b, 0, none⟩ v) b v v1 v2 v3 := by
  unfold Box4 at h ⊢
  simp [World.setCell, Array.getElem?_modify, h]
theorem Box4.set1 {w : World} {b : Nat} {v v0 v1 v2 v3 : Value} (h : Box4 w b v0 v1 v2 v3) : Box4 (w.setCell ⟨b, 1, none⟩ v) b v0 v v2 v3 := by
  unfold Box4 at h ⊢
  simp [World.setCell, Array.getElem?_modify, h]
theorem Box4.set2 {w : World} {b : Nat} {v v0 v1 v2 v3 : Value} (h : Box4 w b v0 v1 v2 v3) : Box4 (w.setCell ⟨b, 2, none⟩ v) b v0 v1 v v3 := by
  unfold Box4 at h ⊢
  simp [World.setCell, Array.getElem?_modify, h]
theorem Box4.set3 {w : World} {b : Nat} {v v0 v1 v2 v3 : Value} (h : Box4 w b v0 v1 v2 v3) : Box4 (w.setCell ⟨b, 3, none⟩ v) b v0 v1 v2 v := by
  unfold Box4 at h ⊢
  simp [World.setCell, Array.getElem?_modify, h]
theorem Box4.set4 {w : World} {b : Nat} {v0 v1 v2 v3 u0 u1 u2 u3 : Value} (h : Box4 w b v0 v1 v2 v3) : Box4 ((((w.setCell ⟨b, 0, none⟩ u0).setCell ⟨b, 1, none⟩ u1).setCell ⟨b, 2, none⟩ u2).setCell ⟨b, 3, none⟩ u3) b u0 u1 u2 u3 := h.set0.set1.set2.set3
theorem Box4.other4 {w : World} {b k : Nat} {v0 v1 v2 v3 u0 u1 u2 u3 : Value} (h : Box4 w b v0 v1 v2 v3) (hn : b ≠ k) : Box4 ((((w.setCell ⟨k, 0, none⟩ u0).setCell ⟨k, 1, none⟩ u1).setCell ⟨k, 2, none⟩ u2).setCell ⟨k, 3, none⟩ u3) b v0 v1 v2 v3 := (((h.other hn).other hn).other hn).other hn
theorem NdRow.buildK {w : World} {ok : Nat → Prop} (hB : ok w.heap.size) {l : List Nd} {xs : List Value} (h : NFlat w ok l xs) : NdRow (w.alloc (.cells xs.toArray 53)) ok l (some ⟨w.heap.size, 0, none⟩) := by
  refine NFlat.row (ok := ok) hB (fun q => by simp only [World.frozen?, heap_alloc_new w (.cells xs.toArray 53)]; simp) 0 rfl (NFlat.mono (fun _ h _ => h) (fun b _ h2 => Below.heap_alloc _ _ b h2) h) fun j u hj => ?_
  have hc := heap_alloc_new w (.cells xs.toArray 53)
  simp only [World.cell?, hc]
  simpa using hj
theorem NdRow.build {w : World} {B : Nat} (hB : B ≤ w.heap.size) {l : List Nd} {xs : List Value} (h : NFlat w (fun b => B ≤ b) l xs) : NdRow (w.alloc (.cells xs.toArray 53)) (fun b => B ≤ b) l (some ⟨w.heap.size, 0, none⟩) := NdRow.buildK (ok := fun b => B ≤ b) hB h
theorem NFlat.two {w : World} {ok : Nat → Prop} {x y : Nd} {a b : List Value} (ha : NdCells w ok x a) (hb : NdCells w ok y b) : NFlat w ok [x, y] (a ++ b) := NFlat.app hb (NFlat.one ha)
theorem NFlat.three {w : World} {ok : Nat → Prop} {x y z : Nd} {a b c : List Value} (ha : NdCells w ok x a) (hb : NdCells w ok y b) (hc : NdCells w ok z c) : NFlat w ok [x, y, z] (a ++ b ++ c) := NFlat.app hc (NFlat.two ha hb)
theorem NdRow.cells {w : World} {ok : Nat → Prop} {k : Int} {n : List UInt8} {kids : List Nd} {p : Int} {y : Option Addr} {c : Cp kids.length} (h : NdRow w ok kids y) : NdCells w ok (.mk k n kids p) [.int .i64 k, .string ⟨n.toArray⟩, .slice y kids.length c, .int .i64 p] := ⟨y, c, rfl, h⟩

theorem token_x (C : Ctx) (p : Nat) (w : World) (h : PSt C w p) (X : World → Prop) (hX : ∀ w', Ow C.pb w w' → X w') :
    Calls Tryz.prog 102 #[.pointer (some ⟨C.pb, 0, none⟩)] w fun e w' => e = .returned (.agg #[.int .i64 (kindT C.ts p), .string ⟨(textT C.ts p).toArray⟩, .int .i64 (placeT C.ts C.s.size p)]) ∧ PSt C w' p ∧ Ow C.pb w w' ∧ X w' :=
  (token_any C p w h).mono fun _ _ ⟨a, b⟩ => ⟨a, h.below b, Ow.of_below b, hX _ (Ow.of_below b)⟩
theorem is_x (C : Ctx) (p : Nat) (s : List UInt8) (w : World) (h : PSt C w p) (X : World → Prop) (hX : ∀ w', Ow C.pb w w' → X w') :
    Calls Tryz.prog 111 #[.pointer (some ⟨C.pb, 0, none⟩), .string ⟨s.toArray⟩] w fun e w' => (isT C.ts p s = true ∧ e = .returned (.bool true) ∧ PSt C w' p ∧ Ow C.pb w w' ∧ X w') ∨ (isT C.ts p s = false ∧ e = .returned (.bool false) ∧ PSt C w' p ∧ Ow C.pb w w' ∧ X w') :=
  (is_any C p s w h).mono fun _ _ ⟨a, b⟩ => by
    cases hB : isT C.ts p s
    · rw [hB] at a
      exact .inr ⟨rfl, a, h.below b, Ow.of_below b, hX _ (Ow.of_below b)⟩
    · rw [hB] at a
      exact .inl ⟨rfl, a, h.below b, Ow.of_below b, hX _ (Ow.of_below b)⟩
theorem skip_x (C : Ctx) (p : Nat) (s : List UInt8) (w : World) (h : PSt C w p) (X : World → Prop) (hX : ∀ w', Ow C.pb w w' → X w') :
    Calls Tryz.prog 104 #[.pointer (some ⟨C.pb, 0, none⟩), .string ⟨s.toArray⟩] w fun e w' => (isT C.ts p s = true ∧ e = .returned (.bool true) ∧ PSt C w' (p + 1) ∧ Ow C.pb w w' ∧ X w') ∨ (isT C.ts p s = false ∧ e = .returned (.bool false) ∧ PSt C w' p ∧ Ow C.pb w w' ∧ X w') :=
  (skip_any C p s w h).mono fun _ _ h1 => h1.imp (fun ⟨a, b, c, d⟩ => ⟨a, b, c, d, hX _ d⟩) (fun ⟨a, b, c⟩ => ⟨a, b, h.below c, Ow.of_below c, hX _ (Ow.of_below c)⟩)
theorem take_x (C : Ctx) (p : Nat) (s : List UInt8) (w : World) (h : PSt C w p) (X : World → Prop) (hX : ∀ w', Ow C.pb w w' → X w') :
    Calls Tryz.prog 108 #[.pointer (some ⟨C.pb, 0, none⟩), .string ⟨s.toArray⟩] w fun e w' =>
      (∃ q, takeP C.ts C.s.size s p = .ok (placeT C.ts C.s.size p) q ∧ e = .returned (.int .i64 (placeT C.ts C.s.size p)) ∧ PSt C w' q ∧ Ow C.pb w w' ∧ X w') ∨ (takeP C.ts C.s.size s p = .bad p ∧ DeadF C w w' p e) :=
  (take_fin C p s w h).mono fun _ _ h1 => h1.imp (fun ⟨q, a, b, c, d⟩ => ⟨q, a, b, c, d, hX _ d⟩) id
theorem name_x (C : Ctx) (p : Nat) (w : World) (h : PSt C w p) (X : World → Prop) (hX : ∀ w', Ow C.pb w w' → X w') :
    Calls Tryz.prog 105 #[.pointer (some ⟨C.pb, 0, none⟩)] w fun e w' =>
      (∃ q, nameP C.ts p = .ok (textT C.ts p) q ∧ e = .returned (.string ⟨(textT C.ts p).toArray⟩) ∧ PSt C w' q ∧ Ow C.pb w w' ∧ X w') ∨ (nameP C.ts p = .bad p ∧ DeadF C w w' p e) :=
  (name_fin C p w h).mono fun _ _ h1 => h1.imp (fun ⟨q, a, b, c, d⟩ => ⟨q, a, b, c, d, hX _ d⟩) id
theorem node_x {C : Ctx} {F : Nat} {args : Array Value} {w : World} {R : Res Nd} (h : Calls Tryz.prog F args w (FinN C w R)) (X : World → Prop) (hX : ∀ w', Ow C.pb w w' → X w') :
    Calls Tryz.prog F args w fun e w' =>
      (∃ k n, ∃ kids : List Nd, ∃ p y, ∃ c : Cp kids.length, ∃ q, R = .ok (.mk k n kids p) q ∧ e = .returned (.agg #[.int .i64 k, .string ⟨n.toArray⟩, .slice y kids.length c, .int .i64 p]) ∧ NdRow w' (fun b => w.heap.size ≤ b) kids y ∧ PSt C w' q ∧ Ow C.pb w w' ∧ X w') ∨ (∃ q, R = .bad q ∧ DeadF C w w' q e) :=
  h.mono fun _ _ h1 => h1.imp (fun ⟨k, n, kids, p, y, c, q, a, b, d, e, f⟩ => ⟨k, n, kids, p, y, c, q, a, b, d, e, f, hX _ f⟩) id
theorem node_ok {C : Ctx} {F : Nat} {args : Array Value} {w : World} {R : Res Nd} (h : Calls Tryz.prog F args w (FinN C w R)) {k : Int} {n : List UInt8} {kids : List Nd} {p : Int} {q : Nat} (hR : R = .ok (.mk k n kids p) q) (X : World → Prop) (hX : ∀ w', Ow C.pb w w' → X w') :
    Calls Tryz.prog F args w fun e w' => ∃ y, ∃ c : Cp kids.length, e = .returned (.agg #[.int .i64 k, .string ⟨n.toArray⟩, .slice y kids.length c, .int .i64 p]) ∧ NdRow w' (fun b => w.heap.size ≤ b) kids y ∧ PSt C w' q ∧ Ow C.pb w w' ∧ X w' :=
  h.mono fun _ _ h1 => by
    rcases h1 with ⟨k', n', kids', p', y, c, q', a, b, d, e, f⟩ | ⟨q', a, _⟩
    · rw [hR] at a
      cases a
      exact ⟨y, c, b, d, e, f, hX _ f⟩
    · rw [hR] at a
      cases a
theorem node_bad {C : Ctx} {F : Nat} {args : Array Value} {w : World} {R : Res Nd} (h : Calls Tryz.prog F args w (FinN C w R)) {q : Nat} (hR : R = .bad q) :
    Calls Tryz.prog F args w fun e w' => DeadF C w w' q e :=
  h.mono fun _ _ h1 => by
    rcases h1 with ⟨k', n', kids', p', y, c, q', a, b, d, e, f⟩ | ⟨q', a, d⟩
    · rw [hR] at a
      cases a
    · rw [hR] at a
      cases a
      exact d
theorem row_x {C : Ctx} {F : Nat} {args : Array Value} {w : World} {R : Res (List Nd)} (h : Calls Tryz.prog F args w (FinR C w R)) (X : World → Prop) (hX : ∀ w', Ow C.pb w w' → X w') :
    Calls Tryz.prog F args w fun e w' =>
      (∃ l : List Nd, ∃ y, ∃ c : Cp l.length, ∃ q, R = .ok l q ∧ e = .returned (.slice y l.length c) ∧ NdRow w' (fun b => w.heap.size ≤ b) l y ∧ PSt C w' q ∧ Ow C.pb w w' ∧ X w') ∨ (∃ q, R = .bad q ∧ DeadF C w w' q e) :=
  h.mono fun _ _ h1 => h1.imp (fun ⟨l, v, q, a, b, d, e, f⟩ => by
    obtain ⟨y, c, rfl, hc, h3⟩ := d.shape
    exact ⟨l, y, ⟨c, hc⟩, q, a, b, h3, e, f, hX _ f⟩) id

def zNode : Obj := .cells #[.int .i64 0, .string ⟨#[]⟩, .slice none 0 0, .int .i64 0] 53

set_option maxHeartbeats 4000000 in
set_option maxRecDepth 100000 in
theorem paramN_any (C : Ctx) (bx : Nat) : OneC C 161 #[.pointer (some ⟨bx, 0, none⟩)] (fun w => w.cell? ⟨bx, 0, none⟩ = some (.pointer (some ⟨C.pb, 0, none⟩)) ∧ bx ≠ C.pb) (nameN C.ts C.s.size) := by
  intro w p h hi _
  obtain ⟨hbx, hne⟩ := hi
  have hA : Below w.heap.size w (w.alloc zNode) := (Below.refl _ _).alloc (Nat.le_refl _) _
  have hlt := World.block_lt_of_cell? w _ hbx
  have hpb := h.lt
  have c0 := token_any C p (w.alloc zNode) (h.below hA)
  have c1 : ∀ w2, Below (w.alloc zNode).heap.size (w.alloc zNode) w2 → Calls Tryz.prog 105 #[.pointer (some ⟨C.pb, 0, none⟩)] w2 fun e w' =>
      (∃ q, nameP C.ts p = .ok (textT C.ts p) q ∧ e = .returned (.string ⟨(textT C.ts p).toArray⟩) ∧ PSt C w' q ∧ Ow C.pb w2 w' ∧ BoxF w' w.heap.size (.int .i64 0) (.string ⟨#[]⟩) (.slice none 0 0) (.int .i64 0)) ∨ (nameP C.ts p = .bad p ∧ DeadF C w2 w' p e) := fun w2 hb =>
    (name_fin C p w2 ((h.below hA).below hb)).mono fun e w3 h1 => h1.imp (fun ⟨q, a, b, c, d⟩ => ⟨q, a, b, c, d, (((Box4.new w _ _ _ _).below hb).ow d (by omega)).facts⟩) id
  have k0 : ∀ o, (w.alloc o).cell? ⟨bx, 0, none⟩ = some (.pointer (some ⟨C.pb, 0, none⟩)) := fun o => al_cell hbx o
  have k1 : ∀ w2, Below (w.alloc zNode).heap.size (w.alloc zNode) w2 → w2.cell? ⟨bx, 0, none⟩ = some (.pointer (some ⟨C.pb, 0, none⟩)) := fun w2 hb => (hb.cell (p := ⟨bx, 0, none⟩) (by have := World.size_alloc w zNode; omega)).trans (al_cell hbx _)
  have H0 := Lib.hid h
  have HA := Lib.hid hA
  have F2 := fld2
  obtain ⟨pl, hpl⟩ : ∃ pl, placeT C.ts C.s.size p = pl := ⟨_, rfl⟩
  rw [hpl] at c0
  have HPL := Lib.hid hpl
  clear h hbx hpl hA
  simp only [zNode] at c0 c1 k1
  go_enter Tryz.func161, Tryz.ntmps161
  go_wp2_with (first | (go_at_call 102; (with_reducible refine c0.mono ?_); rintro e w2 ⟨rfl, hb2⟩; have k3 := k1 _ hb2) | (go_at_call 105; (with_reducible refine (c1 _ hb2).mono ?_); rintro e w3 (⟨q, hr, rfl, hs, ho, e0, e1, e2, e3, ef⟩ | ⟨hr, b, hd1, rfl, hd3, hd4⟩)))
  · have ho3 := ((Ow.of_below HA.out).below hb2).trans ho
    refine ret_node rfl rfl rfl (by simp [go_sem, e0]) (by simp [go_sem, e1]) (by simp [go_sem, e2]) (by simp [go_sem, e3]) (.inl ⟨10, textT C.ts p, [], pl, none, ⟨0, Nat.le_refl _⟩, q, ?_, rfl, trivial, H0.out.keep hs ((Kp.refl _ _).set4 (Nat.le_refl _)), ho3.set4 (Nat.le_refl _)⟩)
    unfold nameN
    rw [hr, HPL.out]
    rfl
  · have hsz := ((Ow.of_below (b := C.pb) HA.out).below hb2)
    refine ⟨rfl, .inr ⟨p, ?_, b, Nat.le_trans hsz.size hd1, rfl, hd3, hsz.trans hd4⟩⟩
    unfold nameN
    rw [hr]
    rfl

set_option maxHeartbeats 4000000 in
set_option maxRecDepth 100000 in
theorem params_any (C : Ctx) (f : Nat) (hf : f ≤ 8192) (p : Nat) (w : World) (h : PSt C w p) (hne : paramsP C.ts C.s.size f p ≠ .out) :
    Calls Tryz.prog 106 #[.pointer (some ⟨C.pb, 0, none⟩)] w (FinN C w (paramsP C.ts C.s.size f p)) := by
  have hmf : ∀ (fn : Fn) (first cap : Array Value) (w : World), (Instr.makeFunc fn first cap).run Tryz.prog w = .ok (.func fn first cap) w := fun _ _ _ _ => rfl
  have hpb := h.lt
  have eg := enters_of Tryz.func161 (by kernel_rfl) rfl
  have hA : Ow C.pb w ((w.alloc (.cells #[.pointer (some ⟨C.pb, 0, none⟩)] 94)).alloc zNode) := ((Ow.refl _ _).alloc _).alloc _
  have hsA : PSt C ((w.alloc (.cells #[.pointer (some ⟨C.pb, 0, none⟩)] 94)).alloc zNode) p := h.below (((Below.refl _ _).alloc (Nat.le_refl _) _).alloc (by simp) _)
  have kb : ∀ w1, Ow C.pb ((w.alloc (.cells #[.pointer (some ⟨C.pb, 0, none⟩)] 94)).alloc zNode) w1 → w1.cell? ⟨w.heap.size, 0, none⟩ = some (.pointer (some ⟨C.pb, 0, none⟩)) ∧ BoxF w1 (w.heap.size + 1) (.int .i64 0) (.string ⟨#[]⟩) (.slice none 0 0) (.int .i64 0) := fun w1 ho =>
    ⟨ho.cell (p := ⟨w.heap.size, 0, none⟩) (by simp; omega) (by simp [zNode]), ((show Box4 ((w.alloc (.cells #[.pointer (some ⟨C.pb, 0, none⟩)] 94)).alloc zNode) (w.heap.size + 1) _ _ _ _ from heap_alloc2_new w _ _).ow ho (by omega)).facts⟩
  have c0 := take_x C p [40] _ hsA _ kb
  have c1 : ∀ w1 q, PSt C w1 q → Ow C.pb ((w.alloc (.cells #[.pointer (some ⟨C.pb, 0, none⟩)] 94)).alloc zNode) w1 → takeP C.ts C.s.size [40] p = .ok (placeT C.ts C.s.size p) q → _ := fun w1 q hs ho hr =>
    row_x (row_any C 161 #[] #[.pointer (some ⟨w.heap.size, 0, none⟩)] (fun w1 => w1.cell? ⟨w.heap.size, 0, none⟩ = some (.pointer (some ⟨C.pb, 0, none⟩)) ∧ w.heap.size ≠ C.pb) (fun a b h1 h2 => ⟨h2.cell (p := ⟨w.heap.size, 0, none⟩) h1.2 h1.1, h1.2⟩) eg (nameN C.ts C.s.size) (by simpa using paramN_any C w.heap.size)
      f hf [41] q w1 hs ⟨(kb w1 ho).1, by omega⟩ (fun e => hne (by unfold paramsP; rw [hr]; simp only [Res.bind]; rw [e]))) _ (fun w2 h2 => kb w2 (ho.trans h2))
  have HA := Lib.hid hA
  have H0 := Lib.hid h
  obtain ⟨R, hR⟩ : ∃ R, paramsP C.ts C.s.size f p = R := ⟨_, rfl⟩
  have HR := Lib.hid hR
  rw [hR]
  clear hR hne kb hA hsA h eg
  simp only [zNode] at c0 c1
  obtain ⟨pl, hpl⟩ : ∃ pl, placeT C.ts C.s.size p = pl := ⟨_, rfl⟩
  rw [hpl] at c0 c1
  clear hpl
  go_enter Tryz.func106, Tryz.ntmps106
  go_wp2_with (first | (go_at_call 108; (with_reducible refine c0.mono ?_); rintro e w1 (⟨q, hr, rfl, hs, ho, k0, e0, e1, e2, e3, ef⟩ | ⟨hr, b, hd1, rfl, hd3, hd4⟩); clear c0) | (go_at_call 160; (with_reducible refine (c1 _ _ hs ho hr).mono ?_); rintro e w2 (⟨l, y, c, q2, hr2, rfl, hk2, hs2, ho2, j0, f0, f1, f2, f3, ff⟩ | ⟨q2, hr2, b, hd1, rfl, hd3, hd4⟩)))
  · have hwA := HA.out.size
    have hwA2 : (w.alloc (.cells #[.pointer (some ⟨C.pb, 0, none⟩)] 94)).heap.size + 1 ≤ w1.heap.size := by have := ho.size; simpa using this
    rw [World.size_alloc] at hwA2
    refine ret_node rfl rfl rfl (by simp [go_sem, f0]) (by simp [go_sem, f1]) (by simp [go_sem, f2]) (by simp [go_sem, f3]) (.inl ⟨4, [], l, pl, y, c, q2, ?_, rfl, (hk2.set4 (fun b hb => by omega)).wide (fun b hb _ => by omega), H0.out.keep hs2 ((Kp.refl _ _).set4 (by omega)), ((HA.out.trans ho).trans ho2).set4 (by omega)⟩)
    rw [← HR.out]
    unfold paramsP
    rw [hr]
    simp only [Res.bind]
    rw [hr2]
  · refine ⟨rfl, .inr ⟨q2, ?_, b, Nat.le_trans (HA.out.trans ho).size hd1, rfl, hd3, (HA.out.trans ho).trans hd4⟩⟩
    rw [← HR.out]
    unfold paramsP
    rw [hr]
    simp only [Res.bind]
    rw [hr2]
  · refine ⟨rfl, .inr ⟨p, ?_, b, Nat.le_trans HA.out.size hd1, rfl, hd3, HA.out.trans hd4⟩⟩
    rw [← HR.out]
    unfold paramsP
    rw [hr]
    rfl

abbrev OneT (C : Ctx) (F : Nat) (R : Nat → Res Nd) : Prop := OneC C F #[.pointer (some ⟨C.pb, 0, none⟩)] (fun _ => True) R

set_option maxHeartbeats 4000000 in
set_option maxRecDepth 100000 in
theorem args_any (C : Ctx) (ex : Nat → Res Nd) (hx : OneT C 109 ex) (f : Nat) (hf : f ≤ 8192) : OneT C 110 (argsO C.ts C.s.size ex f) := by
  intro w p h _ hne
  have hmf : ∀ (fn : Fn) (first cap : Array Value) (w : World), (Instr.makeFunc fn first cap).run Tryz.prog w = .ok (.func fn first cap) w := fun _ _ _ _ => rfl
  have hpb := h.lt
  have eg := enters_of Tryz.func109 (by kernel_rfl) rfl
  have hA : Ow C.pb w (w.alloc zNode) := (Ow.refl _ _).alloc _
  have hsA : PSt C (w.alloc zNode) p := h.below ((Below.refl _ _).alloc (Nat.le_refl _) _)
  have kb : ∀ w1, Ow C.pb (w.alloc zNode) w1 → BoxF w1 w.heap.size (.int .i64 0) (.string ⟨#[]⟩) (.slice none 0 0) (.int .i64 0) := fun w1 ho =>
    ((Box4.new w _ _ _ _).ow ho (by omega)).facts
  have c0 := take_x C p [40] _ hsA _ kb
  have c1 : ∀ w1 q, PSt C w1 q → Ow C.pb (w.alloc zNode) w1 → takeP C.ts C.s.size [40] p = .ok (placeT C.ts C.s.size p) q → _ := fun w1 q hs ho hr =>
    row_x (row_any C 109 #[.pointer (some ⟨C.pb, 0, none⟩)] #[] (fun _ => True) (fun a b h1 h2 => trivial) eg ex (by simpa using hx)
      f hf [41] q w1 hs trivial (fun e => hne (by unfold argsO; rw [hr]; simp only [Res.bind]; rw [e]))) _ (fun w2 h2 => kb w2 (ho.trans h2))
  have HA := Lib.hid hA
  have H0 := Lib.hid h
  obtain ⟨R, hR⟩ : ∃ R, argsO C.ts C.s.size ex f p = R := ⟨_, rfl⟩
  have HR := Lib.hid hR
  rw [hR]
  clear hR hne kb hA hsA h eg hx
  simp only [zNode] at c0 c1
  obtain ⟨pl, hpl⟩ : ∃ pl, placeT C.ts C.s.size p = pl := ⟨_, rfl⟩
  rw [hpl] at c0 c1
  clear hpl
  go_enter Tryz.func110, Tryz.ntmps110
  go_wp2_with (first | (go_at_call 108; (with_reducible refine c0.mono ?_); rintro e w1 (⟨q, hr, rfl, hs, ho, e0, e1, e2, e3, ef⟩ | ⟨hr, b, hd1, rfl, hd3, hd4⟩); clear c0) | (go_at_call 160; (with_reducible refine (c1 _ _ hs ho hr).mono ?_); rintro e w2 (⟨l, y, c, q2, hr2, rfl, hk2, hs2, ho2, f0, f1, f2, f3, ff⟩ | ⟨q2, hr2, b, hd1, rfl, hd3, hd4⟩)))
  · have hwA2 := ho.size
    rw [World.size_alloc] at hwA2
    refine ret_node rfl rfl rfl (by simp [go_sem, f0]) (by simp [go_sem, f1]) (by simp [go_sem, f2]) (by simp [go_sem, f3]) (.inl ⟨8, [], l, pl, y, c, q2, ?_, rfl, (hk2.set4 (fun b hb => by omega)).wide (fun b hb _ => by omega), H0.out.keep hs2 ((Kp.refl _ _).set4 (by omega)), ((HA.out.trans ho).trans ho2).set4 (by omega)⟩)
    rw [← HR.out]
    unfold argsO
    rw [hr]
    simp only [Res.bind]
    rw [hr2]
  · refine ⟨rfl, .inr ⟨q2, ?_, b, Nat.le_trans (HA.out.trans ho).size hd1, rfl, hd3, (HA.out.trans ho).trans hd4⟩⟩
    rw [← HR.out]
    unfold argsO
    rw [hr]
    simp only [Res.bind]
    rw [hr2]
  · refine ⟨rfl, .inr ⟨p, ?_, b, Nat.le_trans HA.out.size hd1, rfl, hd3, HA.out.trans hd4⟩⟩
    rw [← HR.out]
    unfold argsO
    rw [hr]
    rfl
end Go.Proofs.YtpbkeamjdolpgaaGreatDoor
namespace Go.Proofs.YtpbkeamjdolpgaaGreatDoor
open Go.RowKit Go.Lib Go.Shelf

mutual
def LenN : Nd → Prop
  | .mk _ _ kids _ => kids.length < 2 ^ 62 ∧ LenL kids
def LenL : List Nd → Prop
  | [] => True
  | x :: r => LenN x ∧ LenL r
end
theorem LenL.at_ : ∀ {l : List Nd} {i : Nat} {x : Nd}, LenL l → l[i]? = some x → LenN x
  | [], i, x, _, hi => by simp at hi
  | u :: r, 0, x, h, hi => by
    simp at hi
    subst hi
    exact h.1
  | u :: r, i + 1, x, h, hi => LenL.at_ (l := r) (i := i) h.2 (by simpa using hi)
theorem deepL_drop {l : List Nd} {i : Nat} {x : Nd} (h : l[i]? = some x) (d : Nat) : deepL (l.drop i) d = if 64 < d then some x else match deepN x d with
    | some y => some y
    | none => deepL (l.drop (i + 1)) d := by
  obtain ⟨hi, rfl⟩ := List.getElem?_eq_some_iff.1 h
  rw [List.drop_eq_getElem_cons hi]
  rfl
def DeepEnd (w w' : World) (ok : Nat → Prop) (r : Option Nd) (e : Ending) : Prop :=
  Below w.heap.size w w' ∧ ((r = none ∧ e = .returned (.pointer none)) ∨ ∃ nd b o, r = some nd ∧ e = .returned (.pointer (some ⟨b, o, none⟩)) ∧ NdAt w' ok nd b o)

set_option maxHeartbeats 4000000 in
set_option maxRecDepth 100000 in
theorem deep_any (ok : Nat → Prop) : ∀ (N : Nat) (l : List Nd), szL l < N → LenL l → l.length < 2 ^ 62 → ∀ (d : Nat), d ≤ 65 → ∀ (y : Option Addr) (c : Nat) (w : World), NdRow w ok l y →
    Calls Tryz.prog 50 #[.slice y l.length c, .int .i64 d] w fun e w' => DeepEnd w w' ok (deepL l d) e
  | 0, l, hN, _, _, _, _, _, _, _, _ => by omega
  | N + 1, l, hN, hlen, hll, d, hd, y, c, w, hrow => by
    have ih := deep_any ok N
    obtain ⟨R, hR⟩ : ∃ R, deepL l d = R := ⟨_, rfl⟩
    rw [hR]
    obtain ⟨n, hn⟩ : ∃ n, l.length = n := ⟨_, rfl⟩
    have HN := Lib.hid hn
    have HR := Lib.hid hR
    have HROW := Lib.hid hrow
    have HLEN := Lib.hid hlen
    have HSZ := Lib.hid hN
    have HIH := Lib.hid ih
    rw [hn] at hll ⊢
    have Qd1 : IntKind.i64.wrap ((d : Int) + 1) = (d : Int) + 1 := IntWalk.i64_in _ (by omega)
    clear hN hlen hrow hR hn ih
    go_enter Tryz.func50, Tryz.ntmps50
    go_wp2_with fail
    go_loopg [9] n (fun g v wx => ∃ i : Nat, v = .int .i64 i ∧ i + g = n ∧ Below w.heap.size w wx ∧ Hid (deepL (l.drop i) d = R))
    case atStart => exact ⟨0, rfl, by omega, Below.refl _ _, HR⟩
    case round =>
      obtain ⟨i, rfl, hi, hb, hS⟩ := hrel
      by_cases hlt : i < n
      · obtain ⟨x, hx⟩ : ∃ x, l[i]? = some x := ⟨l[i]'(by have := HN.out; omega), List.getElem?_eq_getElem _⟩
        have hS2 := hS.out
        rw [deepL_drop hx] at hS2
        obtain ⟨B, o, rfl, hat⟩ := (HROW.out.below hb).at_ hx
        have hxl := HLEN.out.at_ hx
        obtain ⟨k, nm, kids, p⟩ := x
        obtain ⟨hok, x0, x1, x3, y', c', x2, hk⟩ := hat
        have c1 := HIH.out kids (by have := kids_lt hx; have := HSZ.out; omega) hxl.2 hxl.1 (d + 1)
        have HAT : Hid (NdAt wr ok (.mk k nm kids p) B (o + i * 4)) := ⟨hok, x0, x1, x3, y', c', x2, hk⟩
        have HKK := Lib.hid hk
        have hlt' : (i : Int) < (n : Int) := by omega
        by_cases hd64 : 64 < d
        · have hd' : (64 : Int) < (d : Int) := by omega
          have hS3 : R = some (.mk k nm kids p) := by rw [← hS2, if_pos hd64]
          have HS := Lib.hid hS3
          clear hS hS2 hS3 hx hxl hk c1 hok
          go_wp2_with fail
          go_ret
          exact ⟨hb, .inr ⟨_, B, _, HS.out, rfl, HAT.out⟩⟩
        · have hd' : ¬ (64 : Int) < (d : Int) := by omega
          have c2 : Calls Tryz.prog 50 #[.slice y' kids.length c', .int .i64 ((d : Int) + 1)] wr fun e w' => DeepEnd wr w' ok (deepL kids (d + 1)) e := c1 (by omega) y' c' wr hk
          have hS3 : R = match deepN (.mk k nm kids p) d with
            | some y => some y
            | none => deepL (l.drop (i + 1)) d := by rw [← hS2, if_neg hd64]
          have HS := Lib.hid hS3
          clear hS hS2 hS3 hx hxl hk c1 hok
          go_wp2_with fail
          refine c2.mono ?_
          clear c2
          have Qi1 : IntKind.i64.wrap ((i : Int) + 1) = (i : Int) + 1 := IntWalk.i64_in _ (by omega)
          rintro e w2 ⟨hb2, ⟨hr, rfl⟩ | ⟨nd, b2, o2, hr, rfl, hat2⟩⟩
          · have hS4 := HS.out
            rw [show deepN (.mk k nm kids p) d = deepL kids (d + 1) from rfl, hr] at hS4
            have HS4 := Lib.hid hS4
            have hb3 := tr hb hb2
            clear hr hS4 hb hb2
            go_wp2_with fail
            go_roundg (gk - 1)
            case measure => omega
            case rel => exact ⟨i + 1, rfl, by omega, hb3, HS4.out.symm⟩
          · have hS4 := HS.out
            rw [show deepN (.mk k nm kids p) d = deepL kids (d + 1) from rfl, hr] at hS4
            have HS4 := Lib.hid hS4
            have HA2 := Lib.hid hat2
            have hb3 := tr hb hb2
            clear hr hS4 hb hb2 hat2
            go_wp2_with fail
            go_ret
            exact ⟨hb3, .inr ⟨nd, b2, o2, HS4.out, rfl, HA2.out⟩⟩
      · have hS2 := hS.out
        rw [List.drop_of_length_le (by have := HN.out; omega)] at hS2
        have HS := Lib.hid hS2
        have hlt' : ¬ (i : Int) < (n : Int) := by omega
        clear hS hS2
        go_wp2_with fail
        go_ret
        exact ⟨hb, .inl ⟨HS.out.symm, rfl⟩⟩
end Go.Proofs.YtpbkeamjdolpgaaGreatDoor
namespace Go.Proofs.YtpbkeamjdolpgaaGreatDoor
open Go.RowKit Go.Lib Go.Shelf

def Yes (b : Bool) (w : World) (e : Ending) (w' : World) : Prop := e = .returned (.bool b) ∧ Below w.heap.size w w'
def OneQ (F : Nat) (cap : List Value) (ok : Nat → Prop) (Q : Nd → Bool) (w0 : World) (x : Nd) : Prop :=
  ∀ v w1, Below w0.heap.size w0 w1 → NdVal w1 ok x v → Calls Tryz.prog F (#[v] ++ cap.toArray) w1 (Yes (Q x) w1)
theorem OneQ.below {F : Nat} {cap : List Value} {ok : Nat → Prop} {Q : Nd → Bool} {w0 w1 : World} {x : Nd} (h : OneQ F cap ok Q w0 x) (hb : Below w0.heap.size w0 w1) : OneQ F cap ok Q w1 x := fun v w2 h2 => h v w2 (tr hb h2)
set_option maxHeartbeats 4000000 in
set_option maxRecDepth 100000 in
theorem notone_any (F : Nat) (hF : ∀ args w, (callFunc F args).run Tryz.prog w = .ok (.enter F args) w) (ok : Nat → Prop) (Q : Nd → Bool) (w0 : World) (x : Nd) (h : OneQ F [] ok Q w0 x) (bx : Nat) (hx : w0.cell? ⟨bx, 0, none⟩ = some (.func (.func F) #[] #[])) : OneQ 92 [.pointer (some ⟨bx, 0, none⟩)] ok (fun x => !Q x) w0 x := by
  intro v w1 hb hv
  obtain ⟨B, hB⟩ : ∃ B, Q x = B := ⟨_, rfl⟩
  unfold Yes
  simp only [hB]
  obtain ⟨k, n, kids, p⟩ := x
  obtain ⟨y, c, rfl, hrow⟩ := hv
  have hA : Below w1.heap.size w1 (w1.alloc (.cells #[.int .i64 k, .string ⟨n.toArray⟩, .slice y kids.length c, .int .i64 p] 53)) := (Below.refl _ _).alloc (Nat.le_refl _) _
  have c1 := h (.agg #[.int .i64 k, .string ⟨n.toArray⟩, .slice y kids.length c, .int .i64 p]) _ (tr hb hA) ⟨y, c, rfl, hrow.below hA⟩
  rw [hB] at c1
  have hx1 : w1.cell? ⟨bx, 0, none⟩ = some (.func (.func F) #[] #[]) := (hb.cell (p := ⟨bx, 0, none⟩) (World.block_lt_of_cell? w0 _ hx)).trans hx
  have hx2 := fun o => al_cell hx1 o
  have HA := Lib.hid hA
  simp only [List.append_toArray, List.append_nil] at c1
  clear h hrow hB hb hA hx
  show Calls _ _ _ _ _
  simp only [List.append_toArray, List.cons_append, List.nil_append]
  go_enter Tryz.func92, Tryz.ntmps92
  go_wp2_with fail
  refine c1.mono ?_
  clear c1
  rintro e w2 ⟨rfl, hb2⟩
  go_wp2_with fail
  go_ret
  exact ⟨rfl, tr HA.out hb2⟩
set_option maxHeartbeats 4000000 in
set_option maxRecDepth 100000 in
theorem indexn_any (bx : Nat) (ok : Nat → Prop) (Q : Nd → Bool) (l : List Nd) (n : Nat) (hl : l.length = n) (hn : n < 2 ^ 62) (y : Option Addr) (c : Nat) (w : World) (hrow : NdRow w ok l y) (h : ∀ x ∈ l, OneQ 92 [.pointer (some ⟨bx, 0, none⟩)] ok Q w x) :
    Calls Tryz.prog 146 #[.slice y n c, .func (.func 92) #[] #[.pointer (some ⟨bx, 0, none⟩)]] w fun e w' => (∃ r : Int, e = .returned (.int .i64 r) ∧ decide (0 ≤ r) = l.any Q) ∧ Below w.heap.size w w' := by
  have HROW := Lib.hid hrow
  have HL := Lib.hid hl
  have HH := Lib.hid h
  have eg := enters_of Tryz.func92 (by kernel_rfl) rfl
  clear h hl hrow
  go_enter Tryz.func146, Tryz.ntmps146
  go_wp2_with fail
  go_loopw [8] (fun v wx => ∃ i : Nat, v = .int .i64 i ∧ i ≤ n ∧ Below w.heap.size w wx ∧ Hid ((l.take i).any Q = false)) (fun v _ => n - (RowKit.intOf v).toNat)
  case atStart => exact ⟨0, rfl, Nat.zero_le _, Below.refl _ _, by simp [Hid]⟩
  case round =>
    obtain ⟨i, rfl, hi, hb, hf⟩ := hrel
    by_cases hlt : i < n
    · obtain ⟨u, hu⟩ : ∃ u, l[i]? = some u := ⟨l[i]'(by have := HL.out; omega), List.getElem?_eq_getElem _⟩
      obtain ⟨B, o, rfl, hat⟩ := (HROW.out.below hb).at_ hu
      obtain ⟨k, nm, z, kids, cc, p, rfl, x0, x1, x2, x3, hk⟩ := hat.val
      have c1 := HH.out _ (List.mem_of_getElem? hu) (.agg #[.int .i64 k, .string ⟨nm.toArray⟩, .slice z kids.length cc, .int .i64 p]) wr hb ⟨z, cc, rfl, hk⟩
      have hnext : (l.take (i + 1)).any Q = Q (.mk k nm kids p) := by
        rw [List.take_add_one, hu, List.any_append, hf.out]
        simp
      have hall : Q (.mk k nm kids p) = true → l.any Q = true := fun ht => List.any_eq_true.2 ⟨_, List.mem_of_getElem? hu, ht⟩
      have HN := Lib.hid hnext
      have HA := Lib.hid hall
      have hwsz := hb.size
      simp only [List.append_toArray, List.cons_append, List.nil_append] at c1
      cases hB : Q (.mk k nm kids p)
      · rw [hB] at c1
        have HB := Lib.hid hB
        clear hu hf hnext hall hB hk hat
        go_wp2_with fail
        refine c1.mono ?_
        clear c1
        rintro e w1 ⟨rfl, hb1⟩
        go_wp2_with fail
        go_roundw
        case rel => exact ⟨i + 1, by go_num, by omega, tr hb hb1, by rw [HN.out, HB.out]; rfl⟩
        case measure => simp [RowKit.intOf]; omega
      · rw [hB] at c1
        have HB := Lib.hid hB
        clear hu hf hnext hall hB hk hat
        go_wp2_with fail
        refine c1.mono ?_
        clear c1
        rintro e w1 ⟨rfl, hb1⟩
        go_wp2_with fail
        go_ret
        exact ⟨⟨i, rfl, by rw [HA.out HB.out]; simp⟩, tr hb hb1⟩
    · have hm : l.any Q = false := by
        have := hf.out
        rw [List.take_of_length_le (by have := HL.out; omega)] at this
        exact this
      have HM := Lib.hid hm
      clear hf hm
      go_wp2_with fail
      go_ret
      exact ⟨⟨-1, rfl, by rw [HM.out]; simp⟩, hb⟩
set_option maxHeartbeats 4000000 in
set_option maxRecDepth 100000 in
theorem containsn_any (bx : Nat) (ok : Nat → Prop) (Q : Nd → Bool) (l : List Nd) (n : Nat) (hl : l.length = n) (hn : n < 2 ^ 62) (y : Option Addr) (c : Nat) (w : World) (hrow : NdRow w ok l y) (h : ∀ x ∈ l, OneQ 92 [.pointer (some ⟨bx, 0, none⟩)] ok Q w x) :
    Calls Tryz.prog 91 #[.slice y n c, .func (.func 92) #[] #[.pointer (some ⟨bx, 0, none⟩)]] w (Yes (l.any Q) w) := by
  have ci := indexn_any bx ok Q l n hl hn y c w hrow h
  obtain ⟨B, hB⟩ : ∃ B, l.any Q = B := ⟨_, rfl⟩
  rw [hB] at ci ⊢
  clear h hB hl hrow
  go_enter Tryz.func91, Tryz.ntmps91
  go_wp2_with fail
  refine ci.mono ?_
  clear ci
  rintro e w1 ⟨⟨r, rfl, hr⟩, hb1⟩
  go_wp2_with fail
  go_ret
  refine ⟨?_, hb1⟩
  rw [← hr]
  congr 2
theorem any_not (Q : Nd → Bool) (l : List Nd) : (!(l.any fun x => !Q x)) = l.all Q := by
  induction l with
  | nil => rfl
  | cons x r ih =>
    rw [List.any_cons, List.all_cons, Bool.not_or, ih, Bool.not_not]
set_option maxHeartbeats 4000000 in
set_option maxRecDepth 100000 in
theorem all_any (F : Nat) (hF : ∀ args w, (callFunc F args).run Tryz.prog w = .ok (.enter F args) w) (ok : Nat → Prop) (Q : Nd → Bool) (l : List Nd) (n : Nat) (hl : l.length = n) (hn : n < 2 ^ 62) (y : Option Addr) (c : Nat) (w : World) (hrow : NdRow w ok l y) (h : ∀ x ∈ l, OneQ F [] ok Q w x) :
    Calls Tryz.prog 51 #[.slice y n c, .func (.func F) #[] #[]] w (Yes (l.all Q) w) := by
  have hmf : ∀ (fn : Fn) (first cap : Array Value) (w : World), (Instr.makeFunc fn first cap).run Tryz.prog w = .ok (.func fn first cap) w := fun _ _ _ _ => rfl
  have hA : Below w.heap.size w (w.alloc (.cells #[.func (.func F) #[] #[]] 81)) := (Below.refl _ _).alloc (Nat.le_refl _) _
  have ci := containsn_any w.heap.size ok (fun x => !Q x) l n hl hn y c (w.alloc (.cells #[.func (.func F) #[] #[]] 81)) (hrow.below hA) (fun x hx => notone_any F hF ok Q _ x ((h x hx).below hA) w.heap.size (cell_of_one (heap_alloc_new w _)))
  have HA := Lib.hid hA
  obtain ⟨B, hB⟩ : ∃ B, l.any (fun x => !Q x) = B := ⟨_, rfl⟩
  have hB2 := any_not Q l
  rw [hB] at ci hB2
  rw [← hB2]
  clear h hB hl hrow hA hB2 hF
  go_enter Tryz.func51, Tryz.ntmps51
  go_wp2_with fail
  refine ci.mono ?_
  clear ci
  rintro e w1 ⟨rfl, hb1⟩
  go_wp2_with fail
  go_ret
  exact ⟨rfl, tr HA.out hb1⟩
end Go.Proofs.YtpbkeamjdolpgaaGreatDoor
namespace Go.Proofs.YtpbkeamjdolpgaaGreatDoor
open Go.RowKit Go.Lib Go.Shelf

set_option maxHeartbeats 4000000 in
set_option maxRecDepth 100000 in
theorem indexf_any (C : Ctx) (p : Nat) (l : List (List UInt8)) (n : Nat) (hl : l.length = n) (hn : n ≤ 4096) (g o c : Nat) (w : World) (hs : PSt C w p) (h : StrRow w g o l) :
    Calls Tryz.prog 197 #[.slice (some ⟨g, o, none⟩) n c, .func (.func 111) #[.pointer (some ⟨C.pb, 0, none⟩)] #[]] w fun e w' => (∃ r : Int, e = .returned (.int .i64 r) ∧ decide (0 ≤ r) = anyT C.ts p l) ∧ Below w.heap.size w w' := by
  have H := Lib.hid h
  have HL := Lib.hid hl
  have HS := Lib.hid hs
  have eg := enters_of Tryz.func111 (by kernel_rfl) rfl
  clear h hl hs
  go_enter Tryz.func197, Tryz.ntmps197
  go_wp2_with fail
  go_loopw [8] (fun v wx => ∃ i : Nat, v = .int .i64 i ∧ i ≤ n ∧ Below w.heap.size w wx ∧ Hid ((l.take i).any (isT C.ts p) = false)) (fun v _ => n - (RowKit.intOf v).toNat)
  case atStart => exact ⟨0, rfl, Nat.zero_le _, Below.refl _ _, by simp [Hid]⟩
  case round =>
    obtain ⟨i, rfl, hi, hb, hf⟩ := hrel
    by_cases hlt : i < n
    · obtain ⟨u, hu⟩ : ∃ u, l[i]? = some u := ⟨l[i]'(by have := HL.out; omega), List.getElem?_eq_getElem _⟩
      have k := (H.out.below hb) i u hu
      have c1 := is_any C p u wr (HS.out.below hb)
      have hnext : (l.take (i + 1)).any (isT C.ts p) = isT C.ts p u := by
        rw [List.take_add_one, hu, List.any_append, hf.out]
        simp
      have hall : isT C.ts p u = true → anyT C.ts p l = true := fun ht => List.any_eq_true.2 ⟨u, List.mem_of_getElem? hu, ht⟩
      have HN := Lib.hid hnext
      have HA := Lib.hid hall
      have hwsz := hb.size
      cases hB : isT C.ts p u
      · rw [hB] at c1
        have HB := Lib.hid hB
        clear hu hf hnext hall hB
        go_wp2_with (first | (go_at_call 111; (with_reducible refine c1.mono ?_); rintro e w1 ⟨rfl, hb1⟩))
        go_roundw
        case rel => exact ⟨i + 1, by go_num, by omega, tr hb hb1, by rw [HN.out, HB.out]; rfl⟩
        case measure => simp [RowKit.intOf]; omega
      · rw [hB] at c1
        have HB := Lib.hid hB
        clear hu hf hnext hall hB
        go_wp2_with (first | (go_at_call 111; (with_reducible refine c1.mono ?_); rintro e w1 ⟨rfl, hb1⟩))
        go_ret
        exact ⟨⟨i, rfl, by rw [HA.out HB.out]; simp⟩, tr hb hb1⟩
    · have hm : anyT C.ts p l = false := by
        have := hf.out
        rw [List.take_of_length_le (by have := HL.out; omega)] at this
        exact this
      have HM := Lib.hid hm
      clear hf hm
      go_wp2_with fail
      go_ret
      exact ⟨⟨-1, rfl, by rw [HM.out]; simp⟩, hb⟩
set_option maxHeartbeats 4000000 in
set_option maxRecDepth 100000 in
theorem containsf_any (C : Ctx) (p : Nat) (l : List (List UInt8)) (n : Nat) (hl : l.length = n) (hn : n ≤ 4096) (g o c : Nat) (w : World) (hs : PSt C w p) (h : StrRow w g o l) :
    Calls Tryz.prog 167 #[.slice (some ⟨g, o, none⟩) n c, .func (.func 111) #[.pointer (some ⟨C.pb, 0, none⟩)] #[]] w fun e w' => e = .returned (.bool (anyT C.ts p l)) ∧ Below w.heap.size w w' := by
  have ci := indexf_any C p l n hl hn g o c w hs h
  obtain ⟨B, hB⟩ : ∃ B, anyT C.ts p l = B := ⟨_, rfl⟩
  rw [hB] at ci ⊢
  clear h hB hl hs
  go_enter Tryz.func167, Tryz.ntmps167
  go_wp2_with (first | (go_at_call 197; (with_reducible refine ci.mono ?_); rintro e w1 ⟨⟨r, rfl, hr⟩, hb1⟩; clear ci))
  go_ret
  refine ⟨?_, hb1⟩
  rw [← hr]
  congr 2
end Go.Proofs.YtpbkeamjdolpgaaGreatDoor
namespace Go.Proofs.YtpbkeamjdolpgaaGreatDoor
open Go.RowKit Go.Lib Go.Shelf

def sgV (g k : Nat) : Value := .slice (some ⟨g, 0, none⟩) (signsK k).length (signsK k).length
def SgAll (w : World) (g : Nat) : Prop := ∀ k, k ≤ 4 → StrRow w (g + k) 0 (signsK k) ∧ g + k < w.heap.size
theorem SgAll.below {w w' : World} {g : Nat} (h : SgAll w g) (hb : Below w.heap.size w w') : SgAll w' g := fun k hk => ⟨(h k hk).1.below hb, Nat.lt_of_lt_of_le (h k hk).2 hb.size⟩
theorem strRow_of {w : World} {g : Nat} {l : List (List UInt8)} {t : TypeId} (h : w.heap[g]? = some (.cells (l.map fun s => Value.string ⟨s.toArray⟩).toArray t)) : StrRow w g 0 l := by
  intro j u hj
  rw [Nat.zero_add]
  simp only [World.cell?, h]
  simp [hj]
theorem Tryz.info5 : (Tryz.prog.info? 219).map (·.size) = some 5 := by kernel_rfl
def sgArr (g : Nat) : Array Value := #[sgV g 0, sgV (g + 1) 1, sgV (g + 2) 2, sgV (g + 3) 3, sgV (g + 4) 4]
theorem heap_up {w : World} {b : Nat} {o o' : Obj} (h : w.heap[b]? = some o) : (w.alloc o').heap[b]? = some o := (Below.heap_alloc w o' b ((Array.getElem?_eq_some_iff.1 h).1)).trans h

set_option maxHeartbeats 4000000 in
set_option maxRecDepth 100000 in
theorem signs_any (w : World) :
    Calls Tryz.prog 196 #[] w fun e w' => e = .returned (.agg (sgArr (w.heap.size + 1))) ∧ Below w.heap.size w w' ∧ SgAll w' (w.heap.size + 1) := by
  go_enter Tryz.func196, Tryz.ntmps196
  go_wp2_with fail
  refine bodyPost_ret (v := .agg (sgArr (w.heap.size + 1))) (results_cell_row rfl _ _ w.heap.size 219 (sgArr (w.heap.size + 1)) (0, 0) _ rfl (heap_up (heap_up (heap_up (heap_up (heap_up (heap_alloc_new w _)))))) Tryz.underlying219 rfl Tryz.info5) rfl ⟨rfl, ?_, ?_⟩
  · exact (((((((Below.refl _ _).alloc (Nat.le_refl _) _).alloc (by simp) _).alloc (by simp; omega) _).alloc (by simp; omega) _).alloc (by simp; omega) _).alloc (by simp; omega) _)
  · intro k hk
    have s1 : ∀ (W : World) (o : Obj), (W.alloc o).heap.size = W.heap.size + 1 := World.size_alloc
    match k, hk with
    | 0, _ => exact ⟨strRow_of (heap_up (heap_up (heap_up (heap_up (by have h := heap_alloc_new (w.alloc (.cells (sgArr (w.heap.size + 1)) 219)) (.cells #[.string ⟨#[124, 124]⟩] 9); rw [s1] at h; exact h))))), by simp only [s1]; omega⟩
    | 1, _ => exact ⟨strRow_of (heap_up (heap_up (heap_up (by
        have h := heap_alloc_new ((w.alloc (.cells (sgArr (w.heap.size + 1)) 219)).alloc (.cells #[.string ⟨#[124, 124]⟩] 9)) (.cells #[.string ⟨#[38, 38]⟩] 9)
        rw [s1, s1] at h
        exact h)))), by simp only [s1]; omega⟩
    | 2, _ => exact ⟨strRow_of (heap_up (heap_up (by
        have h := heap_alloc_new (((w.alloc (.cells (sgArr (w.heap.size + 1)) 219)).alloc (.cells #[.string ⟨#[124, 124]⟩] 9)).alloc (.cells #[.string ⟨#[38, 38]⟩] 9)) (.cells #[.string ⟨#[60]⟩, .string ⟨#[60, 61]⟩, .string ⟨#[61, 61]⟩, .string ⟨#[33, 61]⟩, .string ⟨#[62, 61]⟩, .string ⟨#[62]⟩] 9)
        rw [s1, s1, s1] at h
        exact h))), by simp only [s1]; omega⟩
    | 3, _ => exact ⟨strRow_of (heap_up (by
        have h := heap_alloc_new ((((w.alloc (.cells (sgArr (w.heap.size + 1)) 219)).alloc (.cells #[.string ⟨#[124, 124]⟩] 9)).alloc (.cells #[.string ⟨#[38, 38]⟩] 9)).alloc (.cells #[.string ⟨#[60]⟩, .string ⟨#[60, 61]⟩, .string ⟨#[61, 61]⟩, .string ⟨#[33, 61]⟩, .string ⟨#[62, 61]⟩, .string ⟨#[62]⟩] 9)) (.cells #[.string ⟨#[43]⟩, .string ⟨#[45]⟩] 9)
        rw [s1, s1, s1, s1] at h
        exact h)), by simp only [s1]; omega⟩
    | 4, _ => exact ⟨strRow_of (by
        have h := heap_alloc_new (((((w.alloc (.cells (sgArr (w.heap.size + 1)) 219)).alloc (.cells #[.string ⟨#[124, 124]⟩] 9)).alloc (.cells #[.string ⟨#[38, 38]⟩] 9)).alloc (.cells #[.string ⟨#[60]⟩, .string ⟨#[60, 61]⟩, .string ⟨#[61, 61]⟩, .string ⟨#[33, 61]⟩, .string ⟨#[62, 61]⟩, .string ⟨#[62]⟩] 9)).alloc (.cells #[.string ⟨#[43]⟩, .string ⟨#[45]⟩] 9)) (.cells #[.string ⟨#[42]⟩, .string ⟨#[47]⟩] 9)
        rw [s1, s1, s1, s1, s1] at h
        exact h), by simp only [s1]; omega⟩
set_option maxHeartbeats 4000000 in
set_option maxRecDepth 100000 in
theorem back_any (a : Option Addr) (n c : Nat) (w : World) :
    Calls Tryz.prog 163 #[.slice a n c] w fun e w' => e = .returned (.func (.func 195) #[] #[.pointer (some ⟨w.heap.size, 0, none⟩)]) ∧ w' = w.alloc (.cells #[.slice a n c] 182) := by
  have hmf : ∀ (fn : Fn) (first cap : Array Value) (w : World), (Instr.makeFunc fn first cap).run Tryz.prog w = .ok (.func fn first cap) w := fun _ _ _ _ => rfl
  go_enter Tryz.func163, Tryz.ntmps163
  go_wp2_with fail
  go_ret
  exact ⟨rfl, rfl⟩
set_option maxHeartbeats 4000000 in
set_option maxRecDepth 100000 in
theorem allSigns_any (w : World) :
    Calls Tryz.prog 165 #[] w fun e w' => ∃ g b, e = .returned (.slice (some ⟨b, 0, none⟩) 5 5) ∧ Below w.heap.size w w' ∧ SgAll w' g ∧ w.heap.size ≤ g ∧ (∀ k, k ≤ 4 → w'.cell? ⟨b, k, none⟩ = some (sgV (g + k) k)) ∧ w.heap.size ≤ b := by
  have c0 := signs_any w
  simp only [sgArr, sgV] at c0
  go_enter Tryz.func165, Tryz.ntmps165
  go_wp2_with fail
  refine c0.mono ?_
  clear c0
  rintro e w1 ⟨rfl, hb1, hs1⟩
  go_wp2_with fail
  go_ret
  refine ⟨w.heap.size + 1, w1.heap.size, rfl, hb1.alloc hb1.size _, hs1.below ((Below.refl _ _).alloc (Nat.le_refl _) _), by omega, fun k hk => ?_, hb1.size⟩
  match k, hk with
  | 0, _ => simp [sgV]
  | 1, _ => simp [sgV]
  | 2, _ => simp [sgV]
  | 3, _ => simp [sgV]
  | 4, _ => simp [sgV]
theorem Tryz.infoStrs : (Tryz.prog.info? 44).map (fun i => (i.zero, i.size, i.bytes)) = some (some (.slice none 0 0), 1, 24) := by kernel_rfl
theorem sg_cells {w : World} {b g : Nat} (h : ∀ k, k ≤ 4 → w.cell? ⟨b, k, none⟩ = some (sgV (g + k) k)) : ∀ j u, [sgV g 0, sgV (g + 1) 1, sgV (g + 2) 2, sgV (g + 3) 3, sgV (g + 4) 4][j]? = some u → w.cell? ((⟨b, 0, none⟩ : Addr).add j) = some u := by
  intro j u hj
  rw [Addr.add_lit, Nat.zero_add]
  match j, hj with
  | 0, hj => simp at hj; subst hj; exact h 0 (by omega)
  | 1, hj => simp at hj; subst hj; exact h 1 (by omega)
  | 2, hj => simp at hj; subst hj; exact h 2 (by omega)
  | 3, hj => simp at hj; subst hj; exact h 3 (by omega)
  | 4, hj => simp at hj; subst hj; exact h 4 (by omega)
  | j + 5, hj => simp at hj
set_option maxHeartbeats 4000000 in
set_option maxRecDepth 100000 in
theorem clone_any (g b c : Nat) (w : World) (h : ∀ k, k ≤ 4 → w.cell? ⟨b, k, none⟩ = some (sgV (g + k) k)) :
    Calls Tryz.prog 164 #[.slice (some ⟨b, 0, none⟩) 5 c] w fun e w' => ∃ b' c', e = .returned (.slice (some ⟨b', 0, none⟩) 5 c') ∧ Below w.heap.size w w' ∧ (∀ k, k ≤ 4 → w'.cell? ⟨b', k, none⟩ = some (sgV (g + k) k)) ∧ w.heap.size ≤ b' := by
  obtain ⟨i0, hi0, hz0, hz1, hz2⟩ := info_parts Tryz.infoStrs
  have hown : (w.alloc (.cells #[] 44)).ownsRow w.heap.size 44 1 (.slice (some ⟨w.heap.size, 0, none⟩) 0 0) 0 [] := ⟨rfl, .inr ⟨w.heap.size, 0, #[], rfl, Nat.le_refl _, heap_alloc_new w _, Nat.le_refl _, by unfold maxLen; omega, rfl, rfl⟩⟩
  have hnil : ∀ w : World, (binOp .eql 182 (.slice (some ⟨b, 0, none⟩) 5 c) (.slice none 0 0)).run Tryz.prog w = .ok (.bool false) w := fun _ => by kernel_rfl
  have HO := Lib.hid hown
  have HC := Lib.hid h
  clear hown h
  go_enter Tryz.func164, Tryz.ntmps164
  go_wp2_with (first | (at_builtin; refine wpList_append_fresh _ rfl (.tmp 5) (.tmp 6) 182 rfl (w.heap.size) 44 i0 (.slice none 0 0) 1 24 Tryz.underlying182 hi0 hz0 hz1 hz2 rfl (by decide) _ _ _ rfl HO.out ⟨b, 0, none⟩ 5 c [sgV g 0, sgV (g + 1) 1, sgV (g + 2) 2, sgV (g + 3) 3, sgV (g + 4) 4] rfl rfl (sg_cells fun k hk => al_cell (HC.out k hk) _) (fun x hx => by simp at hx; rcases hx with rfl | rfl | rfl | rfl | rfl <;> rfl) (by unfold maxLen; omega) (by omega) (by simp) ?_; intro v' w1 hown' hgrow hfresh))
  rcases hown'.2 with ⟨_, h0⟩ | ⟨b', cap, cur, rfl, hbb, hh, hrest⟩
  · omega
  · go_wp2_with fail
    go_ret
    refine ⟨b', cap, rfl, ?_, fun k hk => ?_, hbb⟩
    · exact Below.grown ((Below.refl _ _).alloc (Nat.le_refl _) _) hgrow (by simp) (fun j hj => (HO.out.lt j hj).1)
    · have hc := hown'.cells (g := b') rfl
      match k, hk with
      | 0, _ => exact hc 0 _ rfl
      | 1, _ => exact hc 1 _ rfl
      | 2, _ => exact hc 2 _ rfl
      | 3, _ => exact hc 3 _ rfl
      | 4, _ => exact hc 4 _ rfl
end Go.Proofs.YtpbkeamjdolpgaaGreatDoor
namespace Go.Proofs.YtpbkeamjdolpgaaGreatDoor

abbrev FlI := Nat × Int × List UInt8
def parseT (ts : List Tk) (L : Nat) : Except FlI (List Nd) := match stmtsP ts L 8192 8192 [] 0 with
  | .out => .error (270, 0, [])
  | .bad q => .error (270, (placeT ts L q : Int), textT ts q)
  | .ok l _ => match deepL l 1 with
    | some x => .error (3, x.pos, x.name)
    | none => .ok l
def parseR (s : List UInt8) : Except FlI (List Nd) := match tokensL s with
  | .error f => .error (f.1, (f.2.1 : Int), f.2.2)
  | .ok ts => parseT ts s.length

/-! ### No more nodes than tokens -/
theorem szL_snoc : ∀ (l : List Nd) (x : Nd), szL (l ++ [x]) = szL l + szN x
  | [], x => by show szN x + 0 = 0 + szN x; omega
  | y :: l, x => by
    show szN y + szL (l ++ [x]) = szN y + szL l + szN x
    rw [szL_snoc l x]
    omega
theorem szL_one (x : Nd) : szL [x] = szN x := rfl
theorem szL_two (x y : Nd) : szL [x, y] = szN x + szN y := rfl
theorem szL_three (x y z : Nd) : szL [x, y, z] = szN x + (szN y + szN z) := rfl
theorem szN_mk (k : Int) (n : List UInt8) (l : List Nd) (p : Int) : szN (.mk k n l p) = szL l + 1 := by rw [szN]
def Szn (p : Nat) (R : Res Nd) : Prop := ∀ x q, R = .ok x q → p + szN x ≤ q
theorem bind_ok {A B : Type} {R : Res A} {f : A → Nat → Res B} {b : B} {q : Nat} (h : R.bind f = .ok b q) : ∃ a r, R = .ok a r ∧ f a r = .ok b q := by
  cases R with
  | out => cases h
  | bad p => cases h
  | ok a r => exact ⟨a, r, rfl, h⟩
section
variable {ts : List Tk} {L : Nat}
theorem take_ok {s : List UInt8} {p q a : Nat} (h : takeP ts L s p = .ok a q) : q = p + 1 := by
  unfold takeP at h
  split at h
  · cases h; rfl
  · cases h
theorem name_ok {p q : Nat} {s : List UInt8} (h : nameP ts p = .ok s q) : q = p + 1 := by
  unfold nameP at h
  split at h
  · cases h; rfl
  · cases h
theorem sz_nameN (p : Nat) : Szn p (nameN ts L p) := by
  intro x q h
  obtain ⟨s, r, h1, h2⟩ := bind_ok h
  have := name_ok h1
  cases h2
  rw [szN_mk]
  show p + (0 + 1) ≤ q
  omega
theorem sz_rowM {one : Nat → Res Nd} (h1 : ∀ p, Szn p (one p)) {e : List UInt8} : ∀ (f : Nat) (acc : List Nd) (q : Nat) (l : List Nd) (r : Nat), rowM ts L one f e acc q = .ok l r → q + szL l + 1 ≤ r + szL acc
  | 0, _, _, _, _, h => by cases h
  | f + 1, acc, q, l, r, h => by
    unfold rowM at h
    split at h
    · cases h; omega
    · obtain ⟨_, r1, a1, h⟩ := bind_ok h
      obtain ⟨x, r2, a2, h⟩ := bind_ok h
      have := take_ok a1
      have := h1 _ x r2 a2
      have := sz_rowM h1 f (acc ++ [x]) r2 l r h
      rw [szL_snoc] at this
      omega
theorem sz_rowG {one : Nat → Res Nd} (h1 : ∀ p, Szn p (one p)) {e : List UInt8} {f p : Nat} {l : List Nd} {r : Nat} (h : rowG ts L one f e p = .ok l r) : p + szL l + 1 ≤ r := by
  unfold rowG at h
  split at h
  · cases h
    show p + 0 + 1 ≤ p + 1
    omega
  · obtain ⟨x, r2, a2, h⟩ := bind_ok h
    have := h1 _ x r2 a2
    have := sz_rowM h1 f [x] r2 l r h
    rw [szL_one] at this
    omega
theorem sz_params (f p : Nat) : Szn p (paramsP ts L f p) := by
  intro x q h
  obtain ⟨_, r1, a1, h⟩ := bind_ok h
  obtain ⟨l, r2, a2, h⟩ := bind_ok h
  have := take_ok a1
  have := sz_rowG sz_nameN a2
  cases h
  rw [szN_mk]
  omega
variable {ex : Nat → Res Nd} (hx : ∀ p, Szn p (ex p))
include hx
theorem sz_args (f p : Nat) : Szn p (argsO ts L ex f p) := by
  intro x q h
  obtain ⟨_, r1, a1, h⟩ := bind_ok h
  obtain ⟨l, r2, a2, h⟩ := bind_ok h
  have := take_ok a1
  have := sz_rowG hx a2
  cases h
  rw [szN_mk]
  omega
theorem sz_atom (f p : Nat) : Szn p (atomO ts L ex f p) := by
  intro x q h
  unfold atomO at h
  split at h
  · obtain ⟨y, r1, a1, h⟩ := bind_ok h
    obtain ⟨_, r2, a2, h⟩ := bind_ok h
    have := take_ok a2
    have := hx _ y r1 a1
    cases h
    omega
  · split at h
    · obtain ⟨l, r1, a1, h⟩ := bind_ok h
      have := sz_rowG hx a1
      cases h
      rw [szN_mk]
      omega
    · split at h
      · cases h
        rw [szN_mk]
        show p + (0 + 1) ≤ p + 1
        omega
      · obtain ⟨s, r1, a1, h⟩ := bind_ok h
        have := name_ok a1
        split at h
        · obtain ⟨a, r2, a2, h⟩ := bind_ok h
          have := sz_args hx f _ a r2 a2
          cases h
          rw [szN_mk, szL_one]
          omega
        · cases h
          rw [szN_mk]
          show p + (0 + 1) ≤ q
          omega
theorem sz_index : ∀ (f : Nat) (x : Nd) (q : Nat) (y : Nd) (r : Nat), indexL ts L ex f x q = .ok y r → q + szN y ≤ r + szN x
  | 0, _, _, _, _, h => by cases h
  | f + 1, x, q, y, r, h => by
    unfold indexL at h
    split at h
    · obtain ⟨z, r1, a1, h⟩ := bind_ok h
      obtain ⟨_, r2, a2, h⟩ := bind_ok h
      have := take_ok a2
      have := hx _ z r1 a1
      have := sz_index f _ r2 y r h
      rw [szN_mk, szL_two] at this
      omega
    · cases h; omega
theorem sz_unary (F : Nat) : ∀ (f p : Nat), Szn p (unaryL ts L ex F f p)
  | 0, _ => fun _ _ h => by cases h
  | f + 1, p => by
    intro x q h
    unfold unaryL at h
    split at h
    · obtain ⟨y, r1, a1, h⟩ := bind_ok h
      have := sz_unary F f _ y r1 a1
      cases h
      rw [szN_mk, szL_one]
      omega
    · obtain ⟨y, r1, a1, h⟩ := bind_ok h
      have := sz_atom hx F p y r1 a1
      have := sz_index hx F y r1 x q h
      omega
omit hx in
theorem sz_levelM {tight : Nat → Res Nd} (ht : ∀ p, Szn p (tight p)) (k : Nat) : ∀ (f : Nat) (x : Nd) (q : Nat) (y : Nd) (r : Nat), levelM ts L tight k f x q = .ok y r → q + szN y ≤ r + szN x
  | 0, _, _, _, _, h => by cases h
  | f + 1, x, q, y, r, h => by
    unfold levelM at h
    split at h
    · obtain ⟨z, r1, a1, h⟩ := bind_ok h
      have := ht _ z r1 a1
      split at h
      · cases h
        rw [szN_mk, szL_two]
        omega
      · have := sz_levelM ht k f _ r1 y r h
        rw [szN_mk, szL_two] at this
        omega
    · cases h; omega
theorem sz_lev (f : Nat) : ∀ (d p : Nat), Szn p (levO ts L ex f d p)
  | 0, p => sz_unary hx f f p
  | d + 1, p => by
    intro x q h
    obtain ⟨y, r1, a1, h⟩ := bind_ok h
    have := sz_lev f d p y r1 a1
    have := sz_levelM (sz_lev f d) _ f y r1 x q h
    omega
theorem sz_exprO (f p : Nat) : Szn p (exprO ts L ex f p) := by
  intro x q h
  unfold exprO at h
  obtain ⟨y, r1, a1, h⟩ := bind_ok h
  have := sz_lev hx f 5 p y r1 a1
  split at h
  · obtain ⟨z, r2, a2, h⟩ := bind_ok h
    obtain ⟨_, r3, a3, h⟩ := bind_ok h
    obtain ⟨u, r4, a4, h⟩ := bind_ok h
    have := hx _ z r2 a2
    have := take_ok a3
    have := hx _ u r4 a4
    cases h
    rw [szN_mk, szL_three]
    omega
  · cases h; omega
omit hx in
theorem sz_expr : ∀ (f p : Nat), Szn p (exprP ts L f p)
  | 0, _ => fun _ _ h => by cases h
  | f + 1, p => sz_exprO (sz_expr f) f p
variable {st : Nat → Res Nd} (hs : ∀ p, Szn p (st p))
include hs
omit hx in
theorem sz_blockL : ∀ (f : Nat) (acc : List Nd) (q : Nat) (l : List Nd) (r : Nat), blockL ts st f acc q = .ok l r → q + szL l + 1 ≤ r + szL acc
  | 0, _, _, _, _, h => by cases h
  | f + 1, acc, q, l, r, h => by
    unfold blockL at h
    split at h
    · cases h; omega
    · obtain ⟨x, r2, a2, h⟩ := bind_ok h
      have := hs _ x r2 a2
      have := sz_blockL f (acc ++ [x]) r2 l r h
      rw [szL_snoc] at this
      omega
omit hx in
theorem sz_block (f p : Nat) : Szn p (blockO ts L st f p) := by
  intro x q h
  obtain ⟨_, r1, a1, h⟩ := bind_ok h
  obtain ⟨l, r2, a2, h⟩ := bind_ok h
  have := take_ok a1
  have := sz_blockL hs f [] r1 l r2 a2
  have e : szL ([] : List Nd) = 0 := rfl
  cases h
  rw [szN_mk]
  omega
theorem sz_stmtO (f p : Nat) : Szn p (stmtO ts L ex st f p) := by
  intro x q h
  unfold stmtO at h
  split at h
  · obtain ⟨s, r1, a1, h⟩ := bind_ok h
    obtain ⟨y, r2, a2, h⟩ := bind_ok h
    obtain ⟨z, r3, a3, h⟩ := bind_ok h
    have := name_ok a1
    have := sz_params f _ y r2 a2
    have := sz_block hs f _ z r3 a3
    cases h
    rw [szN_mk, szL_two]
    omega
  · split at h
    · obtain ⟨s, r1, a1, h⟩ := bind_ok h
      obtain ⟨y, r2, a2, h⟩ := bind_ok h
      obtain ⟨_, r3, a3, h⟩ := bind_ok h
      obtain ⟨z, r4, a4, h⟩ := bind_ok h
      obtain ⟨_, r5, a5, h⟩ := bind_ok h
      have := name_ok a1
      have := sz_params f _ y r2 a2
      have := take_ok a3
      have := hx _ z r4 a4
      have := take_ok a5
      cases h
      rw [szN_mk, szL_two]
      omega
    · split at h
      · obtain ⟨_, r1, a1, h⟩ := bind_ok h
        obtain ⟨s, r2, a2, h⟩ := bind_ok h
        obtain ⟨_, r3, a3, h⟩ := bind_ok h
        obtain ⟨y, r4, a4, h⟩ := bind_ok h
        obtain ⟨_, r5, a5, h⟩ := bind_ok h
        obtain ⟨z, r6, a6, h⟩ := bind_ok h
        have := take_ok a1
        have := name_ok a2
        have := take_ok a3
        have := hx _ y r4 a4
        have := take_ok a5
        have := sz_block hs f _ z r6 a6
        cases h
        rw [szN_mk, szL_two]
        omega
      · split at h
        · obtain ⟨_, r1, a1, h⟩ := bind_ok h
          obtain ⟨y, r2, a2, h⟩ := bind_ok h
          obtain ⟨_, r3, a3, h⟩ := bind_ok h
          obtain ⟨z, r4, a4, h⟩ := bind_ok h
          have := take_ok a1
          have := hx _ y r2 a2
          have := take_ok a3
          have := sz_block hs f _ z r4 a4
          split at h
          · obtain ⟨u, r5, a5, h⟩ := bind_ok h
            have := sz_block hs f _ u r5 a5
            cases h
            rw [szN_mk, szL_three]
            omega
          · cases h
            rw [szN_mk, szL_two]
            omega
        · obtain ⟨s, r1, a1, h⟩ := bind_ok h
          have := name_ok a1
          split at h
          · obtain ⟨y, r2, a2, h⟩ := bind_ok h
            obtain ⟨_, r3, a3, h⟩ := bind_ok h
            have := hx _ y r2 a2
            have := take_ok a3
            cases h
            rw [szN_mk, szL_one]
            omega
          · obtain ⟨y, r2, a2, h⟩ := bind_ok h
            have := sz_args hx f _ y r2 a2
            split at h
            · obtain ⟨z, r3, a3, h⟩ := bind_ok h
              have := sz_block hs f _ z r3 a3
              cases h
              rw [szN_mk, szL_two]
              omega
            · obtain ⟨_, r3, a3, h⟩ := bind_ok h
              have := take_ok a3
              cases h
              rw [szN_mk, szL_one]
              omega
omit hx hs in
theorem sz_stmt (F : Nat) : ∀ (f p : Nat), Szn p (stmtP ts L F f p)
  | 0, _ => fun _ _ h => by cases h
  | f + 1, p => sz_stmtO (sz_expr F) (sz_stmt F f) F p
omit hx hs in
theorem sz_stmts (F : Nat) : ∀ (f : Nat) (acc : List Nd) (q : Nat) (l : List Nd) (r : Nat), stmtsP ts L F f acc q = .ok l r → q + szL l ≤ r + szL acc
  | 0, _, _, _, _, h => by cases h
  | f + 1, acc, q, l, r, h => by
    unfold stmtsP at h
    split at h
    · cases h; omega
    · obtain ⟨x, r2, a2, h⟩ := bind_ok h
      have := sz_stmt F F q x r2 a2
      have := sz_stmts F f (acc ++ [x]) r2 l r h
      rw [szL_snoc] at this
      omega
end
theorem len_szL : ∀ l : List Nd, l.length ≤ szL l
  | [] => Nat.le_refl _
  | x :: l => by
    obtain ⟨k, n, kids, p⟩ := x
    have := len_szL l
    show l.length + 1 ≤ szN _ + szL l
    rw [szN_mk]
    omega
theorem parse_sz {ts : List Tk} {L F f : Nat} {l : List Nd} {r : Nat} (hF : ts.length + 1 < F) (hf : ts.length < f) (h : stmtsP ts L F f [] 0 = .ok l r) : szL l ≤ ts.length := by
  have h1 := sz_stmts F f [] 0 l r h
  have h2 := gd_stmts (ts := ts) (L := L) hF f [] 0 (Nat.zero_le _) (by omega)
  rw [h] at h2
  have e : szL ([] : List Nd) = 0 := rfl
  have := h2.2
  omega
end Go.Proofs.YtpbkeamjdolpgaaGreatDoor
namespace Go.Proofs.YtpbkeamjdolpgaaGreatDoor

mutual
def wtN : Nd → Nat
  | .mk _ n kids _ => wtL kids + n.length + 1
def wtL : List Nd → Nat
  | [] => 0
  | x :: r => wtN x + wtL r
end
theorem wtN_mk (k : Int) (n : List UInt8) (l : List Nd) (p : Int) : wtN (.mk k n l p) = wtL l + n.length + 1 := by rw [wtN]
theorem wtL_mem : ∀ {l : List Nd} {x : Nd}, x ∈ l → wtN x ≤ wtL l
  | y :: r, x, h => by
    show wtN x ≤ wtN y + wtL r
    rcases List.mem_cons.1 h with rfl | h
    · omega
    · have := wtL_mem h; omega
mutual
theorem sz_wtN : ∀ x : Nd, szN x ≤ wtN x
  | .mk _ _ kids _ => by
    rw [szN_mk, wtN_mk]
    have := sz_wtL kids
    omega
theorem sz_wtL : ∀ l : List Nd, szL l ≤ wtL l
  | [] => Nat.le_refl _
  | x :: r => by
    have := sz_wtN x
    have := sz_wtL r
    show szN x + szL r ≤ wtN x + wtL r
    omega
end
theorem len_wtL (l : List Nd) : l.length ≤ wtL l := Nat.le_trans (len_szL l) (sz_wtL l)
theorem wtL_app : ∀ (a b : List Nd), wtL (a ++ b) = wtL a + wtL b
  | [], b => by
    show wtL b = 0 + wtL b
    omega
  | x :: a, b => by
    show wtN x + wtL (a ++ b) = wtN x + wtL a + wtL b
    rw [wtL_app a b]
    omega
theorem kid_wt {k : Int} {n : List UInt8} {l : List Nd} {p : Int} {x : Nd} (h : x ∈ l) : wtN x < wtN (.mk k n l p) := by
  have := wtL_mem h
  rw [wtN_mk]
  omega
end Go.Proofs.YtpbkeamjdolpgaaGreatDoor
namespace Go.Proofs.YtpbkeamjdolpgaaGreatDoor
open Go.RowKit Go.Lib

theorem ret_i64 {a b : Int} (h : a = b) : Ending.returned (.int .i64 a) = .returned (.int .i64 b) := by rw [h]
def Gl (w : World) : Prop :=
  Lib.TabIs Tryz.prog w "unicode.properties" .u8 Lib.propertiesTab ∧ RVar 2 letterT w ∧ RVar 3 digitT w ∧ Lib.Utf8Tabs 4 5 w
theorem Gl.below {w w' : World} (h : Gl w) (hb : Below w.heap.size w w') : Gl w' :=
  ⟨TabIs_below (g := 1) (by kernel_rfl) h.1 hb, RVar_below h.2.1 hb, RVar_below h.2.2.1 hb, Utf8Tabs_below h.2.2.2 hb⟩

def RunFn (g : Nat) (p : Nat → Nat → Bool) (n : Nat) (w : World) : Prop :=
  ∀ (W : World) (i x : Nat), i ≤ n → x ≤ 1114111 → Below w.heap.size w W → Calls Tryz.prog g #[.int .i64 i, .int .i32 x] W fun e w' => e = .returned (.bool (p i x)) ∧ Below W.heap.size W w'

set_option maxHeartbeats 2000000 in
set_option maxRecDepth 1000000 in
theorem run_any (g : Nat) (eg : ∀ args w, (callFunc g args).run Tryz.prog w = .ok (.enter g args) w) (p : Nat → Nat → Bool) (s : ByteArray) (w : World) (hs : s.size ≤ maxLen) (hp : RunFn g p s.size w) :
    Calls Tryz.prog 119 #[.string s, .func (.func g) #[] #[]] w fun e w' => e = .returned (.int .i64 (runL p s.size 0 s.data.toList)) ∧ Below w.heap.size w w' := by
  unfold maxLen at hs
  go_enter Tryz.func119, Tryz.ntmps119
  go_wp2
  go_loopg [] s.size (fun gf wx => ∃ pos : Nat, wx.heap[w.heap.size]? = some (.stringIter s pos) ∧ Below w.heap.size w wx ∧ Hid (pos + runL p gf pos (s.data.toList.drop pos) = runL p s.size 0 s.data.toList) ∧ pos ≤ s.size ∧ s.size ≤ pos + gf)
  case atStart => exact ⟨0, World.iter_heap w s 0, (Below.refl _ w).alloc (Nat.le_refl _) _, Lib.hid (by simp), by omega, by omega⟩
  case round =>
    obtain ⟨pos, hit, hbw, hleft, hpl, hfu⟩ := hrel
    by_cases hps : pos < s.size
    · obtain ⟨g', rfl⟩ : ∃ g', gk = g' + 1 := ⟨gk - 1, by omega⟩
      have hnx : ∀ ty, (Instr.next (.pointer (some ⟨w.heap.size, 0, none⟩)) true ty).run Tryz.prog wr = _ := fun ty => Lib.run_next_any_at wr w.heap.size s pos ty hit hps
      rw [decode_dec] at hnx
      obtain ⟨l, hl⟩ : ∃ l, s.data.toList.drop pos = l := ⟨_, rfl⟩
      have hln : l.length = s.size - pos := by rw [← hl, List.length_drop, ← Lib.size_eq]
      have hlne : l ≠ [] := by intro e; rw [e] at hln; simp at hln; omega
      have hk1 := dec_ge1 l
      have hk2 := dec_le l hlne
      have hr := dec_rune l
      have hpre : Lib.hasPrefix (s.extract pos s.size).data.toList [239, 191, 189] = Lib.hasPrefix l [239, 191, 189] := by rw [Lib.extract_to_end, hl]
      have herr := err_prefix l
      have hbad : ¬ (dec l).1 = 65533 → badL l = false := fun h => by unfold badL; simp [h]
      have hdrop : ∀ K, s.data.toList.drop (pos + K) = l.drop K := fun K => by rw [← hl, List.drop_drop]
      have hrun : runL p (g' + 1) pos l = if badL l then 0 else if p pos (dec l).1 then (dec l).2 + runL p g' (pos + (dec l).2) (l.drop (dec l).2) else 0 := by
        rw [runL, if_neg hlne]
      rw [hl, hrun] at hleft
      rw [hl] at hnx
      obtain ⟨R, hR⟩ : ∃ R, (dec l).1 = R := ⟨_, rfl⟩
      obtain ⟨K, hK⟩ : ∃ K, (dec l).2 = K := ⟨_, rfl⟩
      rw [hR, hK] at hleft
      rw [hR, hK] at hnx
      rw [hK] at hk1 hk2
      rw [hR] at hr herr hbad
      rw [← hdrop] at hleft
      have hit2 := Lib.iterAt_heap wr w.heap.size s pos (pos + K) hit
      have hbw2 := Lib.below_iterAt hbw (k := w.heap.size) (Nat.le_refl _) s (pos + K)
      obtain ⟨W, hWd⟩ : ∃ W, wr.iterAt w.heap.size s (pos + K) = W := ⟨_, rfl⟩
      rw [hWd] at hnx hit2 hbw2
      have hltW : w.heap.size < W.heap.size := (Array.getElem?_eq_some_iff.1 hit2).1
      have cS := hp W pos R hpl hr hbw2
      have cH := Tryz.strings_HasPrefix (s.extract pos s.size) ⟨#[239, 191, 189]⟩ W
      rw [hpre] at cH
      clear hp hpre hrun hK hWd hit hbw hlne
      by_cases h3 : R = 65533
      · have H3 : ((R : Int) == 65533) = true := by simp [h3]
        rw [herr h3] at cH
        clear herr hbad h3 hR
        cases hb : badL l <;> rw [hb] at cH hleft <;> simp only [Bool.not_false, Bool.not_true, if_true, Bool.false_eq_true, if_false] at cH hleft
        · cases hsp : p pos R <;> rw [hsp] at cS hleft <;> simp only [if_true, Bool.false_eq_true, if_false] at hleft
          · have HL := hleft
            clear hleft hdrop hl hsp hb
            go_wp2_with (first | (go_at_call 71; refine cH.mono ?_; rintro e W' ⟨rfl, rfl⟩) | (go_at_fn g; refine cS.mono ?_; rintro e W' ⟨rfl, hbc⟩))
            go_ret
            exact ⟨ret_i64 (by rw [← HL.out]; rfl), (hbw2.trans (hbc.mono hbw2.size))⟩
          · have HL := hleft
            clear hleft hdrop hl hsp hb
            go_wp2_with (first | (go_at_call 71; refine cH.mono ?_; rintro e W' ⟨rfl, rfl⟩) | (go_at_fn g; refine cS.mono ?_; rintro e W' ⟨rfl, hbc⟩))
            go_roundg g'
            case measure => omega
            case rel => exact ⟨pos + K, (hbc.block _ hltW).trans hit2, (hbw2.trans (hbc.mono hbw2.size)), Lib.hid (by rw [← HL.out]; omega), by omega, by omega⟩
        · have HL := hleft
          clear hleft hdrop hl hb cS
          go_wp2_with (first | (go_at_call 71; refine cH.mono ?_; rintro e W' ⟨rfl, rfl⟩))
          go_ret
          exact ⟨ret_i64 (by rw [← HL.out]; rfl), hbw2⟩
      · have H3 : ((R : Int) == 65533) = false := by simp; omega
        have hb := hbad h3
        clear herr hbad h3 hR cH
        rw [hb] at hleft
        simp only [Bool.false_eq_true, if_false] at hleft
        cases hsp : p pos R <;> rw [hsp] at cS hleft <;> simp only [if_true, Bool.false_eq_true, if_false] at hleft
        · have HL := hleft
          clear hleft hdrop hl hsp hb
          go_wp2_with (first | (go_at_fn g; refine cS.mono ?_; rintro e W' ⟨rfl, hbc⟩))
          go_ret
          exact ⟨ret_i64 (by rw [← HL.out]; rfl), (hbw2.trans (hbc.mono hbw2.size))⟩
        · have HL := hleft
          clear hleft hdrop hl hsp hb
          go_wp2_with (first | (go_at_fn g; refine cS.mono ?_; rintro e W' ⟨rfl, hbc⟩))
          go_roundg g'
          case measure => omega
          case rel => exact ⟨pos + K, (hbc.block _ hltW).trans hit2, (hbw2.trans (hbc.mono hbw2.size)), Lib.hid (by rw [← HL.out]; omega), by omega, by omega⟩
    · have hnx : ∀ ty, (Instr.next (.pointer (some ⟨w.heap.size, 0, none⟩)) true ty).run Tryz.prog wr = _ := fun ty => Lib.run_next_end_at wr w.heap.size s pos ty hit hps
      have hnil : s.data.toList.drop pos = [] := by rw [List.drop_eq_nil_iff, ← Lib.size_eq]; omega
      have hps2 : pos = s.size := by omega
      have hL := hleft.out
      rw [hnil, runL_nil] at hL
      have HL := Lib.hid hL
      clear hL hleft hnil hp
      go_wp2
      go_ret
      exact ⟨ret_i64 (by rw [← HL.out, hps2]; rfl), hbw⟩
end Go.Proofs.YtpbkeamjdolpgaaGreatDoor
namespace Go.Proofs.YtpbkeamjdolpgaaGreatDoor
open Go.RowKit Go.Lib

theorem ret_bool {a b : Bool} (h : a = b) : Ending.returned (.bool a) = .returned (.bool b) := by rw [h]

set_option maxHeartbeats 1000000 in
theorem w2_any (i x : Nat) (w : World) : Calls Tryz.prog 123 #[.int .i64 i, .int .i32 x] w fun e w' => e = .returned (.bool (isDg i x)) ∧ Below w.heap.size w w' := by
  unfold isDg
  have hb := Below.refl w.heap.size w
  by_cases h1 : 48 ≤ x
  · by_cases h2 : x ≤ 57
    · have a1 : decide ((x : Int) ≥ 48) = true := by simp; omega
      have a2 : decide ((x : Int) ≤ 57) = true := by simp; omega
      go_enter Tryz.func123, Tryz.ntmps123
      go_wp2
      go_ret
      exact ⟨ret_bool (by simp [h1, h2]), hb⟩
    · have a1 : decide ((x : Int) ≥ 48) = true := by simp; omega
      have a2 : decide ((x : Int) ≤ 57) = false := by simp; omega
      go_enter Tryz.func123, Tryz.ntmps123
      go_wp2
      go_ret
      exact ⟨ret_bool (by simp [h1, h2]), hb⟩
  · have a1 : decide ((x : Int) ≥ 48) = false := by simp; omega
    go_enter Tryz.func123, Tryz.ntmps123
    go_wp2
    go_ret
    exact ⟨ret_bool (by simp [h1]), hb⟩

set_option maxHeartbeats 1000000 in
theorem w1_any (i x : Nat) (hx : x ≤ 1114111) (w : World) (hG : Gl w) : Calls Tryz.prog 120 #[.int .i64 i, .int .i32 x] w fun e w' => e = .returned (.bool (isNm i x)) ∧ Below w.heap.size w w' := by
  have cL := Tryz.unicode_IsLetter_all (x : Int) w (by omega) (by omega) hG.1 hG.2.1
  have cD := fun (w' : World) (hb : Below w.heap.size w w') => Tryz.unicode_IsDigit_all (x : Int) w' (by omega) (by omega) (hG.below hb).2.2.1
  clear hG
  by_cases h1 : x = 95
  · have H1 : ((x : Int) == 95) = true := by simp; omega
    have hn : isNm i x = true := by simp [isNm, h1]
    clear h1 cL cD
    go_enter Tryz.func120, Tryz.ntmps120
    go_wp2
    go_ret
    exact ⟨ret_bool (by rw [hn]), Below.refl _ _⟩
  · have H1 : ((x : Int) == 95) = false := by simp; omega
    have hn : isNm i x = (Lib.isLetterU x || (decide (0 < i) && Lib.isDigitU x)) := by
      have hx : (x == 95) = false := by simpa using h1
      simp [isNm, hx]
    rw [hn]
    clear h1 hn
    cases hl : Lib.isLetterU x <;> rw [hl] at cL
    · by_cases h0 : 0 < i
      · have H0 : decide ((i : Int) > 0) = true := by simp; omega
        obtain ⟨d, hd⟩ : ∃ d, Lib.isDigitU x = d := ⟨_, rfl⟩
        rw [hd] at cD ⊢
        clear hl hd
        go_enter Tryz.func120, Tryz.ntmps120
        go_wp2_with (first | (go_at_call 121; refine cL.mono ?_; rintro e w' ⟨rfl, hb⟩) | (go_at_call 122; refine (cD _ hb).mono ?_; rintro e w2 ⟨rfl, hb2⟩))
        all_goals go_ret
        all_goals exact ⟨ret_bool (by simp [h0]), hb.trans (hb2.mono hb.size)⟩
      · have H0 : decide ((i : Int) > 0) = false := by simp; omega
        clear hl cD
        go_enter Tryz.func120, Tryz.ntmps120
        go_wp2_with (first | (go_at_call 121; refine cL.mono ?_; rintro e w' ⟨rfl, hb⟩))
        go_ret
        exact ⟨ret_bool (by simp [h0]), hb⟩
    · clear hl cD
      go_enter Tryz.func120, Tryz.ntmps120
      go_wp2_with (first | (go_at_call 121; refine cL.mono ?_; rintro e w' ⟨rfl, hb⟩))
      go_ret
      exact ⟨ret_bool (by simp), hb⟩

end Go.Proofs.YtpbkeamjdolpgaaGreatDoor
namespace Go.Proofs.YtpbkeamjdolpgaaGreatDoor
open Go.RowKit Go.Lib

def signArr : Array Value := #[.string ⟨#[124, 124]⟩, .string ⟨#[38, 38]⟩, .string ⟨#[60, 61]⟩, .string ⟨#[61, 61]⟩, .string ⟨#[33, 61]⟩, .string ⟨#[62, 61]⟩, .string ⟨#[43]⟩, .string ⟨#[45]⟩, .string ⟨#[42]⟩, .string ⟨#[47]⟩, .string ⟨#[60]⟩, .string ⟨#[62]⟩, .string ⟨#[33]⟩, .string ⟨#[63]⟩, .string ⟨#[58]⟩, .string ⟨#[44]⟩, .string ⟨#[59]⟩, .string ⟨#[61]⟩, .string ⟨#[40]⟩, .string ⟨#[41]⟩, .string ⟨#[91]⟩, .string ⟨#[93]⟩, .string ⟨#[123]⟩, .string ⟨#[125]⟩]
theorem idx_signs (w : World) : ∀ (k : Nat), k < 24 → (Instr.index 159 (.agg signArr) (.int .i64 (k : Int))).run Tryz.prog w = .ok (.string ⟨(signs.getD k []).toArray⟩) w
  | 0, _ => by kernel_rfl
  | 1, _ => by kernel_rfl
  | 2, _ => by kernel_rfl
  | 3, _ => by kernel_rfl
  | 4, _ => by kernel_rfl
  | 5, _ => by kernel_rfl
  | 6, _ => by kernel_rfl
  | 7, _ => by kernel_rfl
  | 8, _ => by kernel_rfl
  | 9, _ => by kernel_rfl
  | 10, _ => by kernel_rfl
  | 11, _ => by kernel_rfl
  | 12, _ => by kernel_rfl
  | 13, _ => by kernel_rfl
  | 14, _ => by kernel_rfl
  | 15, _ => by kernel_rfl
  | 16, _ => by kernel_rfl
  | 17, _ => by kernel_rfl
  | 18, _ => by kernel_rfl
  | 19, _ => by kernel_rfl
  | 20, _ => by kernel_rfl
  | 21, _ => by kernel_rfl
  | 22, _ => by kernel_rfl
  | 23, _ => by kernel_rfl
  | n + 24, h => absurd h (by omega)
def signOld : Array Value := #[.string ⟨#[]⟩, .string ⟨#[]⟩, .string ⟨#[]⟩, .string ⟨#[]⟩, .string ⟨#[]⟩, .string ⟨#[]⟩, .string ⟨#[]⟩, .string ⟨#[]⟩, .string ⟨#[]⟩, .string ⟨#[]⟩, .string ⟨#[]⟩, .string ⟨#[]⟩, .string ⟨#[]⟩, .string ⟨#[]⟩, .string ⟨#[]⟩, .string ⟨#[]⟩, .string ⟨#[]⟩, .string ⟨#[]⟩, .string ⟨#[]⟩, .string ⟨#[]⟩, .string ⟨#[]⟩, .string ⟨#[]⟩, .string ⟨#[]⟩, .string ⟨#[]⟩]
theorem sz_signs : (Tryz.prog.info? 159).map (·.size) = some signArr.size := by kernel_rfl
theorem one_signs : signArr.all (·.oneCell') = true := by kernel_rfl
set_option maxHeartbeats 1000000 in
theorem lsigns_any (w : World) : Calls Tryz.prog 124 #[] w fun e w' => e = .returned (.agg signArr) ∧ Below w.heap.size w w' := by
  go_enter Tryz.func124, Tryz.ntmps124
  go_wp2_with (refine wpList_store_rowTo rfl 159 (.tmp 0) (.tmp 1) rfl rfl w.heap.size signArr rfl rfl 159 signOld (heap_alloc_last w _) sz_signs rfl one_signs ?_; rw [World.setRow_alloc_new])
  exact bodyPost_ret (v := .agg signArr) (results_cell_row rfl _ _ w.heap.size 159 signArr (0, 0) _ rfl (heap_alloc_last w _) Tryz.underlying159 rfl sz_signs) rfl ⟨rfl, (Below.refl _ _).alloc (Nat.le_refl _) _⟩
end Go.Proofs.YtpbkeamjdolpgaaGreatDoor
namespace Go.Proofs.YtpbkeamjdolpgaaGreatDoor
open Go.RowKit Go.Lib

theorem e_w1 : ∀ args w, (callFunc 120 args).run Tryz.prog w = .ok (.enter 120 args) w := enters_of Tryz.func120 (by kernel_rfl) rfl
theorem e_w2 : ∀ args w, (callFunc 123 args).run Tryz.prog w = .ok (.enter 123 args) w := enters_of Tryz.func123 (by kernel_rfl) rfl

theorem run1 (s : ByteArray) (w : World) (hs : s.size ≤ maxLen) (hG : Gl w) :
    Calls Tryz.prog 119 #[.string s, .func (.func 120) #[] #[]] w fun e w' => e = .returned (.int .i64 (nameL s.data.toList)) ∧ Below w.heap.size w w' := by
  have h := run_any 120 e_w1 isNm s w hs (fun W i x _ hx hb => w1_any i x hx W (hG.below hb))
  rw [Lib.size_eq] at h
  exact h
theorem run2 (s : ByteArray) (w : World) (hs : s.size ≤ maxLen) :
    Calls Tryz.prog 119 #[.string s, .func (.func 123) #[] #[]] w fun e w' => e = .returned (.int .i64 (digs s.data.toList)) ∧ Below w.heap.size w w' := by
  have h := run_any 123 e_w2 isDg s w hs (fun W i x _ _ _ => w2_any i x W)
  rw [digs_run _ _ _ (by rw [Lib.size_eq]; exact Nat.le_refl _)] at h
  exact h
theorem ret_2i {a b c d : Int} (h : a = b) (k : c = d) : Ending.returned (.tuple #[.int .i64 a, .int .i64 c]) = .returned (.tuple #[.int .i64 b, .int .i64 d]) := by rw [h, k]
theorem getq_nat (s : ByteArray) (n : Nat) (h : n < s.size) (c : Nat) (hc : c < 256) : ((((s[n]'h).toNat : Int) == (c : Int)) = true) ↔ s.data.toList[n]? = some (UInt8.ofNat c) := by
  have e : s.data.toList[n]? = some (s[n]'h) := by
    rw [List.getElem?_eq_getElem (by rw [← Lib.size_eq]; exact h)]
    rfl
  rw [e]
  simp only [beq_iff_eq, Option.some.injEq]
  constructor
  · intro h1
    apply UInt8.toNat_inj.1
    simp
    omega
  · intro h1
    rw [h1]
    simp
    omega
theorem numL_eq (l : List UInt8) (n k : Nat) (hn : digs l = n) (hk : digs (l.drop (n + 1)) = k) (h2 : 0 < n) : numL l = if l[n]? = some 46 ∧ 0 < k then n + (1 + k) else n := by
  unfold numL
  rw [hn, hk, if_neg (by omega), List.head?_drop]
theorem digs_le (l : List UInt8) : digs l ≤ l.length := by
  unfold digs
  exact (List.takeWhile_sublist _).length_le
theorem nameL_le (l : List UInt8) : nameL l ≤ l.length := runL_le _ _ _ _

set_option maxHeartbeats 1000000 in
theorem word_name (s : ByteArray) (w : World) (hs : s.size ≤ maxLen) (hG : Gl w) (h : 0 < nameL s.data.toList) :
    Calls Tryz.prog 64 #[.string s] w fun e w' => e = .returned (.tuple #[.int .i64 (wordL s.data.toList).1, .int .i64 (wordL s.data.toList).2]) ∧ Below w.heap.size w w' := by
  have hw : wordL s.data.toList = (0, nameL s.data.toList) := by simp [wordL, h]
  rw [hw]
  have c1 := run1 s w hs hG
  have hle := nameL_le s.data.toList
  obtain ⟨n, hn⟩ : ∃ n, nameL s.data.toList = n := ⟨_, rfl⟩
  rw [hn] at c1 h ⊢
  clear hn hw hG hs hle
  go_enter Tryz.func64, Tryz.ntmps64
  go_wp2_with (first | (go_at_call 119; refine c1.mono ?_; rintro e w' ⟨rfl, hb⟩))
  go_ret2
  exact ⟨rfl, hb⟩

set_option maxHeartbeats 1000000 in
set_option maxRecDepth 100000 in
theorem word_num (s : ByteArray) (w : World) (hs : s.size ≤ maxLen) (hG : Gl w) (h : nameL s.data.toList = 0) (h2 : 0 < digs s.data.toList) :
    Calls Tryz.prog 64 #[.string s] w fun e w' => e = .returned (.tuple #[.int .i64 (wordL s.data.toList).1, .int .i64 (wordL s.data.toList).2]) ∧ Below w.heap.size w w' := by
  have hw : wordL s.data.toList = (1, numL s.data.toList) := by
    have : 0 < numL s.data.toList := by unfold numL; rw [if_neg (by omega)]; split <;> omega
    simp [wordL, h, this]
  rw [hw]
  have c1 := run1 s w hs hG
  rw [h] at c1
  have c2 := fun W => run2 s W hs
  have hle := digs_le s.data.toList
  rw [← Lib.size_eq] at hle
  have c3 := fun W => run2 (s.extract (digs s.data.toList + 1) s.size) W (Nat.le_trans (by rw [Lib.size_eq (s.extract _ _), Lib.extract_to_end, List.length_drop, ← Lib.size_eq]; omega) hs)
  rw [Lib.extract_to_end] at c3
  unfold maxLen at hs
  have he := numL_eq s.data.toList _ _ rfl rfl h2
  obtain ⟨M, hM⟩ : ∃ M, numL s.data.toList = M := ⟨_, rfl⟩
  rw [hM] at he ⊢
  obtain ⟨n, hn⟩ : ∃ n, digs s.data.toList = n := ⟨_, rfl⟩
  rw [hn] at c2 c3 h2 hle he
  have hk := digs_le (s.data.toList.drop (n + 1))
  rw [List.length_drop, ← Lib.size_eq] at hk
  obtain ⟨k, hk2⟩ : ∃ k, digs (s.data.toList.drop (n + 1)) = k := ⟨_, rfl⟩
  rw [hk2] at c3 hk he
  have HE := Lib.hid he
  have hdot := getq_nat s n
  have HD := Lib.hid hdot
  clear hn hk2 hw hG h hM he hdot
  go_enter Tryz.func64, Tryz.ntmps64
  go_wp2_with (first | (go_at_call 119; (with_reducible refine (c1).mono ?_); rintro e w1 ⟨rfl, hb⟩) | (go_at_call 119; (with_reducible refine (c2 _).mono ?_); rintro e w2 ⟨rfl, hb2⟩) | (go_at_call 119; (with_reducible refine (c3 _).mono ?_); rintro e w3 ⟨rfl, hb3⟩))
  · have a1 : n < s.size := by assumption
    have a2 := (HD.out a1 46 (by omega)).1 (by assumption)
    have a3 : 0 < k := by assumption
    go_ret2
    exact ⟨ret_2i rfl (by rw [HE.out, if_pos ⟨a2, a3⟩]; simp), tr (tr hb hb2) hb3⟩
  · have a3 : ¬ 0 < k := by assumption
    go_ret2
    exact ⟨ret_2i rfl (by rw [HE.out, if_neg (fun h => a3 h.2)]), tr (tr hb hb2) hb3⟩
  · have a1 : n < s.size := by assumption
    have a2 : ((((s[n]'a1).toNat : Int) == (46 : Nat)) = false) := by assumption
    go_ret2
    exact ⟨ret_2i rfl (by rw [HE.out, if_neg (fun h => by have := (HD.out a1 46 (by omega)).2 h.1; rw [a2] at this; cases this)]), tr hb hb2⟩
  · have a1 : ¬ n < s.size := by assumption
    go_ret2
    exact ⟨ret_2i rfl (by rw [HE.out, if_neg (fun h => a1 (by have := (List.getElem?_eq_some_iff.1 h.1).1; rw [← Lib.size_eq] at this; exact this))]), tr hb hb2⟩

theorem signIn_step (l : List UInt8) (k : Nat) (hk : k < 24) : signIn l (signs.drop k) = if Lib.hasPrefix l (signs.getD k []) then (signs.getD k []).length else signIn l (signs.drop (k + 1)) := by
  have hl : k < signs.length := hk
  rw [List.drop_eq_getElem_cons hl]
  have e : signs.getD k [] = signs[k] := by simp [hl]
  rw [e]
  rfl
theorem signs_pos : ∀ k, k < 24 → 0 < (signs.getD k []).length := by decide
theorem signs_le : ∀ k, k < 24 → (signs.getD k []).length ≤ 2 := by decide

set_option maxHeartbeats 1000000 in
set_option maxRecDepth 100000 in
theorem word_sign (s : ByteArray) (w : World) (hs : s.size ≤ maxLen) (hG : Gl w) (h : nameL s.data.toList = 0) (h2 : digs s.data.toList = 0) :
    Calls Tryz.prog 64 #[.string s] w fun e w' => e = .returned (.tuple #[.int .i64 (wordL s.data.toList).1, .int .i64 (wordL s.data.toList).2]) ∧ Below w.heap.size w w' := by
  have hw : wordL s.data.toList = if 0 < signIn s.data.toList signs then (2, signIn s.data.toList signs) else (0, 0) := by
    have : numL s.data.toList = 0 := by unfold numL; rw [if_pos h2]
    simp only [wordL, h, this, signL]
    rfl
  obtain ⟨M, hM⟩ : ∃ M, wordL s.data.toList = M := ⟨_, rfl⟩
  rw [hM] at hw ⊢
  have c1 := run1 s w hs hG
  rw [h] at c1
  have c2 := fun W => run2 s W hs
  rw [h2] at c2
  have cS := lsigns_any
  have cH := fun k W => Tryz.strings_HasPrefix s ⟨(signs.getD k []).toArray⟩ W
  have HW := Lib.hid hw
  have hi := idx_signs
  clear hw hM hG h h2
  go_enter Tryz.func64, Tryz.ntmps64
  go_wp2_with (first | (go_at_call 119; (with_reducible refine (c1).mono ?_); rintro e w1 ⟨rfl, hb⟩) | (go_at_call 119; (with_reducible refine (c2 _).mono ?_); rintro e w2 ⟨rfl, hb2⟩) | (go_at_call 124; refine (cS _).mono ?_; rintro e w3 ⟨rfl, hb3⟩))
  go_loop [42] (fun i => ∃ k : Nat, k ≤ 24 ∧ i = .int .i64 k ∧ Hid (signIn s.data.toList (signs.drop k) = signIn s.data.toList signs)) (fun i => 24 - (RowKit.intOf i).toNat)
  case atStart => exact ⟨0, by omega, rfl, rfl⟩
  case round =>
    obtain ⟨k, hk, rfl, hS⟩ := hrel
    by_cases hlt : k < 24
    · have hx := hi w3 k hlt
      have cP := cH k w3
      have hst := signIn_step s.data.toList k hlt
      have hps := signs_pos k hlt
      have hsz : (⟨(signs.getD k []).toArray⟩ : ByteArray).size = (signs.getD k []).length := by simp [ByteArray.size]
      obtain ⟨T, hT⟩ : ∃ T : ByteArray, T = ⟨(signs.getD k []).toArray⟩ := ⟨_, rfl⟩
      rw [← hT] at hx cP hsz
      rw [← hsz] at hst hps
      cases hp : Lib.hasPrefix s.data.toList (signs.getD k []) <;> rw [hp] at cP hst <;> simp only [if_true, Bool.false_eq_true, if_false] at hst
      · have HS := Lib.hid hst
        clear hst hsz hT hp hi cH
        go_wp2_with (first | (go_at_call 71; (with_reducible refine cP.mono ?_); rintro e w4 ⟨rfl, rfl⟩))
        go_round
        case rel => exact ⟨k + 1, by omega, by go_num, by rw [← hS.out, HS.out]; rfl⟩
        case measure => simp [RowKit.intOf]; omega
      · have HS := Lib.hid hst
        have hszs : T.size ≤ 2 := by rw [hsz]; exact signs_le k hlt
        clear hst hsz hT hp hi cH
        go_wp2_with (first | (go_at_call 71; (with_reducible refine cP.mono ?_); rintro e w4 ⟨rfl, rfl⟩))
        go_ret2
        have e : M = (2, T.size) := by rw [HW.out, ← hS.out, HS.out, if_pos hps]
        exact ⟨ret_2i (by rw [e]; rfl) (by rw [e]), tr (tr hb hb2) hb3⟩
    · have hk24 : k = 24 := by omega
      have e : M = (0, 0) := by rw [HW.out, ← hS.out, hk24]; rfl
      clear hi cH hk24
      have HE := Lib.hid e
      clear e
      go_wp2
      go_ret2
      exact ⟨ret_2i (by rw [HE.out]; rfl) (by rw [HE.out]; rfl), tr (tr hb hb2) hb3⟩

theorem word_any (s : ByteArray) (w : World) (hs : s.size ≤ maxLen) (hG : Gl w) :
    Calls Tryz.prog 64 #[.string s] w fun e w' => e = .returned (.tuple #[.int .i64 (wordL s.data.toList).1, .int .i64 (wordL s.data.toList).2]) ∧ Below w.heap.size w w' := by
  rcases Nat.eq_zero_or_pos (nameL s.data.toList) with h | h
  · rcases Nat.eq_zero_or_pos (digs s.data.toList) with h2 | h2
    · exact word_sign s w hs hG h h2
    · exact word_num s w hs hG h h2
  · exact word_name s w hs hG h
end Go.Proofs.YtpbkeamjdolpgaaGreatDoor
namespace Go.Proofs.YtpbkeamjdolpgaaGreatDoor
open Go.RowKit Go.Lib

theorem indexByte_ge (l : List UInt8) (c : UInt8) : Lib.indexByte l c = -1 ∨ 0 ≤ Lib.indexByte l c := by
  induction l with
  | nil => left; rfl
  | cons b l ih =>
    unfold Lib.indexByte
    split
    · right; omega
    · split
      · left; rfl
      · right; rename_i h; simp at h; omega
theorem indexByte_lt (l : List UInt8) (c : UInt8) : Lib.indexByte l c < l.length := by
  induction l with
  | nil => simp [Lib.indexByte]
  | cons b l ih =>
    unfold Lib.indexByte
    split
    · simp
    · split
      · simp only [List.length_cons]; omega
      · simp only [List.length_cons]; omega
theorem bl_index (c : UInt8) : isBl c = decide (Lib.indexByte [32, 9, 10, 13] c ≥ 0) := by
  unfold isBl
  simp only [Lib.indexByte]
  by_cases h1 : (32 : UInt8) = c
  · subst h1; rfl
  by_cases h2 : (9 : UInt8) = c
  · subst h2; rfl
  by_cases h3 : (10 : UInt8) = c
  · subst h3; rfl
  by_cases h4 : (13 : UInt8) = c
  · subst h4; rfl
  have e1 : ((32 : UInt8) == c) = false := by simpa using h1
  have e2 : ((9 : UInt8) == c) = false := by simpa using h2
  have e3 : ((10 : UInt8) == c) = false := by simpa using h3
  have e4 : ((13 : UInt8) == c) = false := by simpa using h4
  have f1 : (c == 32) = false := by simpa using fun h => h1 h.symm
  have f2 : (c == 9) = false := by simpa using fun h => h2 h.symm
  have f3 : (c == 10) = false := by simpa using fun h => h3 h.symm
  have f4 : (c == 13) = false := by simpa using fun h => h4 h.symm
  simp [e1, e2, e3, e4, f1, f2, f3, f4]
theorem skip_comment : ∀ l : List UInt8, skipB true l = if Lib.indexByte l 10 = -1 then l.length else (Lib.indexByte l 10).toNat + skipB false (l.drop (Lib.indexByte l 10).toNat)
  | [] => rfl
  | c :: r => by
    have ih := skip_comment r
    have hg := indexByte_ge r 10
    unfold Lib.indexByte
    by_cases h : c = 10
    · subst h
      simp [skipB, isBl]
    · have e : (c == 10) = false := by simpa using h
      rw [skipB, if_neg h, ih, e]
      simp only [Bool.false_eq_true, if_false]
      by_cases h1 : Lib.indexByte r 10 = -1
      · rw [h1]
        simp
        omega
      · have e1 : (Lib.indexByte r 10 == -1) = false := by simpa using h1
        rw [e1]
        have h2 : (Lib.indexByte r 10 + 1).toNat = (Lib.indexByte r 10).toNat + 1 := by omega
        simp only [h1, if_false, Bool.false_eq_true]
        rw [if_neg (by omega), h2, List.drop_succ_cons]
        omega
theorem pre2 (c : UInt8) (r : List UInt8) : Lib.hasPrefix (c :: r) [47, 47] = decide (c = 47 ∧ r.head? = some 47) := by
  unfold Lib.hasPrefix
  cases r with
  | nil => simp [List.isPrefixOf]
  | cons d r =>
    rw [Bool.eq_iff_iff]
    simp [List.isPrefixOf]
    constructor
    · rintro ⟨rfl, rfl⟩; simp
    · rintro ⟨rfl, rfl⟩; simp
theorem skip_step (c : UInt8) (r : List UInt8) : skipB false (c :: r) = if isBl c then 1 + skipB false r else if Lib.hasPrefix (c :: r) [47, 47] then skipB true (c :: r) else 0 := by
  have h1 : skipB false (c :: r) = if isBl c then 1 + skipB false r else if c = 47 ∧ r.head? = some 47 then 1 + skipB true r else 0 := by rw [skipB]
  rw [h1, pre2]
  by_cases hb : isBl c = true
  · rw [if_pos hb, if_pos hb]
  · rw [if_neg hb, if_neg hb]
    by_cases h : c = 47 ∧ r.head? = some 47
    · rw [if_pos h, if_pos (by simpa using h), skipB, if_neg (by rw [h.1]; decide)]
    · rw [if_neg h, if_neg (by simpa using h)]
theorem index_ne (l : List UInt8) (h : Lib.hasPrefix l [47, 47] = true) : Lib.indexByte l 10 ≠ 0 := by
  cases l with
  | nil => simp [Lib.hasPrefix] at h
  | cons c r =>
    rw [pre2] at h
    simp only [decide_eq_true_eq] at h
    obtain ⟨rfl, _⟩ := h
    have := indexByte_ge r 10
    unfold Lib.indexByte
    rw [if_neg (by decide)]
    split
    · decide
    · rename_i h1; simp at h1; omega
theorem skipB_le : ∀ (b : Bool) (l : List UInt8), skipB b l ≤ l.length
  | b, [] => by cases b <;> simp [skipB]
  | true, c :: r => by
    have h1 := skipB_le true r
    have h2 := skipB_le false r
    unfold skipB
    split <;> simp <;> omega
  | false, c :: r => by
    have h1 := skipB_le true r
    have h2 := skipB_le false r
    unfold skipB
    split
    · simp; omega
    · split
      · simp; omega
      · simp
theorem drop_cons (s : ByteArray) (pos : Nat) (h : pos < s.size) : s.data.toList.drop pos = s[pos]'h :: s.data.toList.drop (pos + 1) := by
  rw [List.drop_eq_getElem_cons (by rw [← Lib.size_eq]; exact h)]
  rfl
theorem u8_back (c : UInt8) : ((c.toNat : Int)).toNat.toUInt8 = c := by simp

set_option maxHeartbeats 1000000 in
set_option maxRecDepth 100000 in
theorem lskip_any (s : ByteArray) (w : World) (hs : s.size ≤ maxLen) :
    Calls Tryz.prog 63 #[.string s] w fun e w' => e = .returned (.int .i64 (skipL s.data.toList)) ∧ Below w.heap.size w w' := by
  unfold maxLen at hs
  have cI := fun (s : ByteArray) (c : UInt8) (W : World) => Tryz.strings_IndexByte s (c.toNat : Int) W
  simp only [u8_back] at cI
  have cH := fun (s p : ByteArray) (W : World) => Tryz.strings_HasPrefix s p W
  go_enter Tryz.func63, Tryz.ntmps63
  go_wp2_with fail
  go_step3
  go_wp2_with fail
  go_step3
  go_wp2_with fail
  go_loop [3] (fun i => ∃ pos : Nat, pos ≤ s.size ∧ i = .int .i64 pos ∧ Hid (pos + skipB false (s.data.toList.drop pos) = skipL s.data.toList)) (fun i => s.size - (RowKit.intOf i).toNat)
  case atStart => exact ⟨0, by omega, rfl, by simp [Hid, skipL]⟩
  case round =>
    obtain ⟨pos, hp, rfl, hS⟩ := hrel
    by_cases hlt : pos < s.size
    · have hdc := drop_cons s pos hlt
      have hst := skip_step (s[pos]'hlt) (s.data.toList.drop (pos + 1))
      rw [← hdc] at hst
      have hbl := bl_index (s[pos]'hlt)
      have c1 := cI ⟨#[32, 9, 10, 13]⟩ (s[pos]'hlt) w
      have hex : (s.extract pos s.size).data.toList = s.data.toList.drop pos := Lib.extract_to_end _ _
      have c2 := cH (s.extract pos s.size) ⟨#[47, 47]⟩ w
      have c3 : Calls Tryz.prog 118 #[.string (s.extract pos s.size), .int .u8 10] w fun e w' => e = .returned (.int .i64 (Lib.indexByte (s.extract pos s.size).data.toList 10)) ∧ w' = w := Tryz.strings_IndexByte _ 10 w
      rw [hex] at c2 c3
      have hcm := skip_comment (s.data.toList.drop pos)
      have hge := indexByte_ge (s.data.toList.drop pos) 10
      have hlt2 := indexByte_lt (s.data.toList.drop pos) 10
      have hlen : (s.data.toList.drop pos).length = s.size - pos := by rw [List.length_drop, ← Lib.size_eq]
      have hin := index_ne (s.data.toList.drop pos)
      obtain ⟨l, hl⟩ : ∃ l, s.data.toList.drop pos = l := ⟨_, rfl⟩
      have hdr : ∀ k, s.data.toList.drop (pos + k) = l.drop k := fun k => by rw [← hl, List.drop_drop]
      rw [hdr] at hst
      rw [hl] at hst c2 c3 hcm hge hlt2 hlen hin hS
      obtain ⟨I, hI⟩ : ∃ I, Lib.indexByte [32, 9, 10, 13] (s[pos]'hlt) = I := ⟨_, rfl⟩
      rw [hI] at c1 hbl
      obtain ⟨J, hJ⟩ : ∃ J, Lib.indexByte l 10 = J := ⟨_, rfl⟩
      rw [hJ] at c3 hcm hge hlt2 hin
      have hS2 := hS.out
      clear hS cI cH hdc hex hJ hI hl
      rw [hst, hbl] at hS2
      by_cases hI0 : I ≥ 0
      · have HI : decide (I ≥ 0) = true := by simpa using hI0
        rw [HI, if_pos rfl] at hS2
        have HS := Lib.hid hS2
        have HD := Lib.hid hdr
        clear hS2 hst hbl hcm hin hge hlt2 hdr hI0 c2 c3
        go_wp2_with (first | (go_at_call 118; (with_reducible refine c1.mono ?_); rintro e w4 ⟨rfl, rfl⟩))
        go_round
        case rel => exact ⟨pos + 1, by omega, by go_num, by rw [HD.out, ← HS.out]; show _ = _; omega⟩
        case measure => simp [RowKit.intOf]; omega
      · have HI : decide (I ≥ 0) = false := by simpa using hI0
        rw [HI, if_neg (by simp)] at hS2
        cases hp : Lib.hasPrefix l [47, 47] <;> rw [hp] at c2 hS2
        · rw [if_neg (by simp)] at hS2
          have HS := Lib.hid hS2
          clear hS2 hst hbl hcm hin hge hlt2 hdr hI0 c3 hp
          go_wp2_with (first | (go_at_call 118; (with_reducible refine c1.mono ?_); rintro e w4 ⟨rfl, rfl⟩) | (go_at_call 71; (with_reducible refine c2.mono ?_); rintro e w4 ⟨rfl, rfl⟩))
          rw [Exit.noGoto_ret]
          go_ret
          exact ⟨ret_i64 (by rw [← HS.out]; rfl), Below.refl _ _⟩
        · rw [if_pos rfl, hcm] at hS2
          have hj0 := hin hp
          by_cases hj : J = -1
          · rw [if_pos hj, hlen] at hS2
            have HJ : decide (J ≥ 0) = false := by simp; omega
            have HS := Lib.hid hS2
            clear hS2 hst hbl hcm hin hge hlt2 hdr hI0 hp hj0 hj
            go_wp2_with (first | (go_at_call 118; (with_reducible refine c1.mono ?_); rintro e w4 ⟨rfl, rfl⟩) | (go_at_call 71; (with_reducible refine c2.mono ?_); rintro e w4 ⟨rfl, rfl⟩) | (go_at_call 118; (with_reducible refine c3.mono ?_); rintro e w4 ⟨rfl, rfl⟩))
            rw [Exit.noGoto_ret]
            go_ret
            exact ⟨ret_i64 (by rw [← HS.out]; omega), Below.refl _ _⟩
          · rw [if_neg hj] at hS2
            have HJ : decide (J ≥ 0) = true := by simp; omega
            have HS := Lib.hid hS2
            obtain ⟨j, rfl⟩ : ∃ j : Nat, J = j := ⟨J.toNat, by omega⟩
            have HD := Lib.hid hdr
            have hjp : 0 < j := by omega
            have hjl : pos + j < s.size := by omega
            clear hS2 hst hbl hcm hin hge hlt2 hdr hI0 hp hj0 hj
            go_wp2_with (first | (go_at_call 118; (with_reducible refine c1.mono ?_); rintro e w4 ⟨rfl, rfl⟩) | (go_at_call 71; (with_reducible refine c2.mono ?_); rintro e w4 ⟨rfl, rfl⟩) | (go_at_call 118; (with_reducible refine c3.mono ?_); rintro e w4 ⟨rfl, rfl⟩))
            go_round
            case rel => exact ⟨pos + j, by omega, by go_num, by rw [HD.out, ← HS.out]; show _ = _; simp; omega⟩
            case measure => simp [RowKit.intOf]; omega
    · have e : pos = skipL s.data.toList := by
        rw [← hS.out, List.drop_eq_nil_of_le (by rw [← Lib.size_eq]; omega)]
        rfl
      clear cI cH hS
      have HE := Lib.hid e
      clear e
      go_wp2
      go_ret
      exact ⟨ret_i64 (by rw [HE.out]), Below.refl _ _⟩
end Go.Proofs.YtpbkeamjdolpgaaGreatDoor
namespace Go.Proofs.YtpbkeamjdolpgaaGreatDoor
open Go.RowKit Go.Lib

theorem numL_le (l : List UInt8) : numL l ≤ l.length := by
  have h1 := digs_le l
  have h2 := digs_le (l.drop (digs l + 1))
  rw [List.length_drop] at h2
  unfold numL
  split
  · omega
  · split
    · rename_i h
      have : (l.drop (digs l)).length ≠ 0 := by intro h0; rw [List.eq_nil_of_length_eq_zero h0] at h; simp at h
      rw [List.length_drop] at this
      omega
    · exact h1
theorem signIn_le (l : List UInt8) : ∀ ts, signIn l ts ≤ l.length
  | [] => Nat.zero_le _
  | t :: r => by
    unfold signIn
    split
    · rename_i h
      exact (List.isPrefixOf_iff_prefix.1 h).length_le
    · exact signIn_le l r
theorem wordL_le (l : List UInt8) : (wordL l).2 ≤ l.length := by
  have h1 := nameL_le l
  have h2 := numL_le l
  have h3 : signL l ≤ l.length := signIn_le l signs
  unfold wordL
  split
  · exact h1
  · split
    · exact h2
    · split
      · exact h3
      · exact Nat.zero_le _

theorem decGo (s : ByteArray) (pos : Nat) (h : pos < s.size) : Lib.decodeGo (s.extract pos s.size) = dec (s.data.toList.drop pos) := by
  unfold Lib.decodeGo
  have hsz : (s.extract pos s.size).size = s.size - pos := by rw [Lib.size_eq (s.extract _ _), Lib.extract_to_end, List.length_drop, ← Lib.size_eq]
  rw [if_neg (by omega), decode_dec, Lib.extract_to_end]
  simp

end Go.Proofs.YtpbkeamjdolpgaaGreatDoor
namespace Go.Proofs.YtpbkeamjdolpgaaGreatDoor
open Go.RowKit Go.Lib

end Go.Proofs.YtpbkeamjdolpgaaGreatDoor
namespace Go.Proofs.YtpbkeamjdolpgaaGreatDoor
open Go.RowKit Go.Lib

end Go.Proofs.YtpbkeamjdolpgaaGreatDoor
namespace Go.Proofs.YtpbkeamjdolpgaaGreatDoor
open Go.RowKit Go.Lib

end Go.Proofs.YtpbkeamjdolpgaaGreatDoor
namespace Go.Proofs.YtpbkeamjdolpgaaGreatDoor
open Go.RowKit Go.Lib

def nameOk (l : List UInt8) : Bool := !l.isEmpty && (wordL l).1 == 0 && (wordL l).2 == l.length
theorem nameOk_eq (l : List UInt8) : nameOk l = (decide (0 < l.length) && decide (nameL l = l.length)) := by
  unfold nameOk
  rw [Bool.eq_iff_iff]
  have h1 := nameL_le l
  cases l with
  | nil => simp
  | cons c r =>
    simp only [List.isEmpty_cons, Bool.not_false, Bool.true_and, Bool.and_eq_true, beq_iff_eq, decide_eq_true_eq]
    unfold wordL
    by_cases h : 0 < nameL (c :: r)
    · simp [h]
    · rw [if_neg h]
      have h0 : nameL (c :: r) = 0 := by omega
      rw [h0]
      constructor
      · rintro ⟨h2, h3⟩
        exfalso
        by_cases g1 : 0 < numL (c :: r)
        · rw [if_pos g1] at h2; simp at h2
        · rw [if_neg g1] at h2 h3
          by_cases g2 : 0 < signL (c :: r)
          · rw [if_pos g2] at h2; simp at h2
          · rw [if_neg g2] at h3; simp at h3
      · rintro ⟨_, h3⟩
        simp at h3

set_option maxHeartbeats 1000000 in
theorem lname_any (s : ByteArray) (w : World) (hs : s.size ≤ maxLen) (hG : Gl w) :
    Calls Tryz.prog 149 #[.string s] w fun e w' => e = .returned (.bool (nameOk s.data.toList)) ∧ Below w.heap.size w w' := by
  have cW := word_any s w hs hG
  unfold nameOk
  rw [← Lib.size_eq]
  obtain ⟨k, hk⟩ : ∃ k, (wordL s.data.toList).1 = k := ⟨_, rfl⟩
  obtain ⟨n, hn⟩ : ∃ n, (wordL s.data.toList).2 = n := ⟨_, rfl⟩
  rw [hk, hn] at cW ⊢
  clear hk hn hG hs
  have e1 : s.toList.isEmpty = s.data.toList.isEmpty := by rw [Lib.toList_data]
  have q2 : (k == 0) = ((k : Int) == 0) := by rw [Bool.eq_iff_iff]; simp
  have q3 : (n == s.size) = ((n : Int) == (s.size : Int)) := by rw [Bool.eq_iff_iff]; simp; omega
  rw [q2, q3]
  obtain ⟨B, hB⟩ : ∃ B, ((k : Int) == 0) = B := ⟨_, rfl⟩
  obtain ⟨C, hC⟩ : ∃ C, ((n : Int) == (s.size : Int)) = C := ⟨_, rfl⟩
  rw [hB, hC]
  clear q2 q3
  cases hE : s.data.toList.isEmpty
  · have h1 : s.toList.isEmpty = false := by rw [e1, hE]
    clear e1 hE
    cases B <;> cases C
    all_goals (
      go_enter Tryz.func149, Tryz.ntmps149
      go_wp2_with (first | (go_at_call 64; (with_reducible refine cW.mono ?_); rintro e w1 ⟨rfl, hb⟩))
      go_ret
      exact ⟨rfl, hb⟩)
  · have h1 : s.toList.isEmpty = true := by rw [e1, hE]
    clear e1 hE hB hC
    go_enter Tryz.func149, Tryz.ntmps149
    go_wp2_with (first | (go_at_call 64; (with_reducible refine cW.mono ?_); rintro e w1 ⟨rfl, hb⟩))
    go_ret
    exact ⟨rfl, hb⟩

end Go.Proofs.YtpbkeamjdolpgaaGreatDoor
namespace Go.Proofs.YtpbkeamjdolpgaaGreatDoor
open Go.RowKit Go.Lib

def contL (acc : List Tk) : Except Flt (List Tk) → Except Flt (List Tk)
  | .ok ts => .ok (acc ++ ts)
  | .error e => .error e

def TokEnd (R : Except Flt (List Tk)) (w : World) (e : Ending) (w' : World) : Prop :=
  Below w.heap.size w w' ∧ match R with
  | .ok ts => ∃ v, e = .returned (.tuple #[v, .nilIface]) ∧ w'.ownsRow w.heap.size 46 3 v ts.length (tkFlat ts)
  | .error f => ∃ b, w.heap.size ≤ b ∧ e = .returned (.tuple #[.slice none 0 0, .iface 23 (.pointer (some ⟨b, 0, none⟩))]) ∧
      w'.heap[b]? = some (.cells #[.int .i64 f.1, .int .i64 f.2.1, .string ⟨f.2.2.toArray⟩] 61 (0, 0))

theorem toksL_step (g n p : Nat) (l : List UInt8) (h : l ≠ []) : toksL (g + 1) n p l =
    if (wordL l).2 = 0 then .error (260, p, l.take (dec l).2)
    else if n = 4096 then .error (3, p, l.take (wordL l).2)
    else match toksL g (n + 1) (p + (wordL l).2 + skipL (l.drop (wordL l).2)) (l.drop ((wordL l).2 + skipL (l.drop (wordL l).2))) with
      | .ok ts => .ok (((wordL l).1, l.take (wordL l).2, p) :: ts)
      | .error e => .error e := by
  rw [toksL, if_neg h] <;> rfl
theorem contL_cons (acc : List Tk) (t : Tk) (X : Except Flt (List Tk)) : contL acc (match X with | .ok ts => .ok (t :: ts) | .error e => .error e) = contL (acc ++ [t]) X := by
  cases X <;> simp [contL]
theorem extract_mk (s : ByteArray) (p m : Nat) : s.extract p (p + m) = ⟨((s.data.toList.drop p).take m).toArray⟩ := by
  have h := Lib.extract_data s p (p + m)
  rw [show p + m - p = m by omega] at h
  rw [← h]
theorem Tryz.infoTok : (Tryz.prog.info? 46).map (fun i => (i.zero, i.size, i.bytes)) = some (some (.agg #[.int .i64 0, .string ⟨#[]⟩, .int .i64 0]), 3, 32) := by kernel_rfl

set_option maxHeartbeats 2000000 in
set_option maxRecDepth 100000 in
theorem tokens_long (s : ByteArray) (w : World) (h : 65536 < s.size) :
    Calls Tryz.prog 30 #[.string s] w (TokEnd (tokensL s.data.toList) w) := by
  have hr : tokensL s.data.toList = .error (3, 0, []) := by unfold tokensL; rw [if_pos (by rw [← Lib.size_eq]; exact h)]
  rw [hr]
  have Q : decide ((s.size : Int) > 65536) = true := by simp; omega
  clear hr h
  go_enter Tryz.func30, Tryz.ntmps30
  go_wp2
  go_ret2
  refine ⟨(Below.refl _ _).alloc (Nat.le_refl _) _, w.heap.size, Nat.le_refl _, rfl, ?_⟩
  exact heap_alloc_new w _

set_option maxHeartbeats 4000000 in
set_option maxRecDepth 100000 in
theorem tokens_any (s : ByteArray) (w : World) (hs : s.size ≤ 65536) (hG : Gl w) :
    Calls Tryz.prog 30 #[.string s] w (TokEnd (tokensL s.data.toList) w) := by
  have hr : tokensL s.data.toList = toksL s.size 0 (skipL s.data.toList) (s.data.toList.drop (skipL s.data.toList)) := by unfold tokensL; rw [if_neg (by rw [← Lib.size_eq]; omega), Lib.size_eq]
  have hr2 : contL [] (toksL s.size 0 (skipL s.data.toList) (s.data.toList.drop (skipL s.data.toList))) = tokensL s.data.toList := by
    rw [hr]
    cases toksL s.size 0 (skipL s.data.toList) (s.data.toList.drop (skipL s.data.toList)) <;> simp [contL]
  obtain ⟨R, hR⟩ : ∃ R, tokensL s.data.toList = R := ⟨_, rfl⟩
  rw [hR] at hr2 ⊢
  have HR := Lib.hid hr2
  have hsk := skipB_le false s.data.toList
  rw [← Lib.size_eq] at hsk
  have hsk2 : skipL s.data.toList ≤ s.size := hsk
  have c0 := lskip_any s w (by unfold maxLen; omega)
  obtain ⟨P0, hP0⟩ : ∃ P0, skipL s.data.toList = P0 := ⟨_, rfl⟩
  rw [hP0] at HR hsk2 c0
  have Q : decide ((s.size : Int) > 65536) = false := by simp; omega
  clear hr hr2 hR hsk hP0
  obtain ⟨i0, hi, hz0, hz1, hz2⟩ := info_parts Tryz.infoTok
  go_enter Tryz.func30, Tryz.ntmps30
  go_wp2_with (first | (go_at_call 63; (with_reducible refine c0.mono ?_); rintro e w1 ⟨rfl, hb1⟩))
  go_loopg [4, 5] s.size (fun gf v i wx => ∃ (p : Nat) (acc : List Tk), i = .int .i64 p ∧ p ≤ s.size ∧ Below w.heap.size w wx ∧ wx.ownsRow w.heap.size 46 3 v acc.length (tkFlat acc) ∧ acc.length ≤ 4096 ∧ Hid (contL acc (toksL gf acc.length p (s.data.toList.drop p)) = R) ∧ s.size ≤ p + gf)
  case atStart => exact ⟨P0, [], rfl, hsk2, hb1, World.ownsRow_nil _ _ _ _, by simp, HR, by omega⟩
  case round =>
    obtain ⟨p, acc, rfl, hp, hb, hown, hlen, hS, hfu⟩ := hrel
    by_cases hlt : p < s.size
    · obtain ⟨g', rfl⟩ : ∃ g', gk = g' + 1 := ⟨gk - 1, by omega⟩
      have hxl : (s.extract p s.size).data.toList = s.data.toList.drop p := Lib.extract_to_end _ _
      have hxs : (s.extract p s.size).size = s.size - p := by rw [Lib.size_eq (s.extract _ _), hxl, List.length_drop, ← Lib.size_eq]
      have cW := word_any (s.extract p s.size) wr (by unfold maxLen; omega) (hG.below hb)
      have cD := fun w1 (hb1 : Below wr.heap.size wr w1) => Tryz.utf8_DecodeRuneInString (s.extract p s.size) w1 ((hG.below hb).below hb1).2.2.2
      rw [decGo s p hlt] at cD
      rw [hxl] at cW
      have cS := fun q (hq : q ≤ s.size) W => lskip_any (s.extract q s.size) W (by rw [Lib.size_eq (s.extract _ _), Lib.extract_to_end, List.length_drop, ← Lib.size_eq]; unfold maxLen; omega)
      simp only [Lib.extract_to_end] at cS
      have hext := extract_mk s p
      obtain ⟨l, hl⟩ : ∃ l, s.data.toList.drop p = l := ⟨_, rfl⟩
      have hln : l.length = s.size - p := by rw [← hl, List.length_drop, ← Lib.size_eq]
      have hlne : l ≠ [] := by intro h; rw [h] at hln; simp at hln; omega
      have hdrop : ∀ K, s.data.toList.drop (p + K) = l.drop K := fun K => by rw [← hl, List.drop_drop]
      rw [hl] at cW cD hS
      simp only [hl] at hext
      have hS2 := hS.out
      rw [toksL_step _ _ _ _ hlne] at hS2
      have hwl := wordL_le l
      have hdl := dec_le l hlne
      have hd1 := dec_ge1 l
      have hsk := skipB_le false (l.drop (wordL l).2)
      rw [List.length_drop] at hsk
      obtain ⟨k, hk⟩ : ∃ k, (wordL l).1 = k := ⟨_, rfl⟩
      obtain ⟨n, hn⟩ : ∃ n, (wordL l).2 = n := ⟨_, rfl⟩
      obtain ⟨r, hr⟩ : ∃ r, (dec l).1 = r := ⟨_, rfl⟩
      obtain ⟨m, hm⟩ : ∃ m, (dec l).2 = m := ⟨_, rfl⟩
      rw [hk, hn] at cW hS2
      rw [hr, hm] at cD
      rw [hm] at hS2 hdl hd1
      rw [hn] at hwl hsk
      clear hS hk hn hr hm hxl hxs hlne hl hG
      by_cases h0 : n = 0
      · have Q0 : ((n : Int) == 0) = true := by simp; omega
        rw [if_pos h0] at hS2
        simp only [contL] at hS2
        have HS := Lib.hid hS2
        have HX := Lib.hid (hext m)
        clear hS2 h0 cS hext hdrop hsk hwl
        go_wp2_with (first | (go_at_call 64; (with_reducible refine cW.mono ?_); rintro e w1 ⟨rfl, hb1⟩) | (go_at_call 65; (with_reducible refine (cD _ hb1).mono ?_); rintro e w2 ⟨rfl, hb2⟩))
        clear cD cW Q0 Q
        have hpm : p + m ≤ s.size := by omega
        have X1 : IntKind.i64.wrap ((p : Int) + (m : Int)) = (p : Int) + (m : Int) := IntWalk.i64_in _ (by omega)
        have X2 : 0 ≤ (p : Int) + (m : Int) := by omega
        have X3 : ((p : Int) + (m : Int)).toNat = p + m := by omega
        go_region
        go_wp2
        go_ret2
        refine ⟨?_, ?_⟩
        · exact ((tr (tr hb hb1) hb2).alloc (tr (tr hb hb1) hb2).size _).drew
        · rw [← HS.out]
          refine ⟨w2.heap.size, (tr (tr hb hb1) hb2).size, rfl, ?_⟩
          rw [← HX.out]
          exact heap_alloc_new w2 _
      · have Q0 : ((n : Int) == 0) = false := by simp; omega
        rw [if_neg h0] at hS2
        by_cases h1 : acc.length = 4096
        · have Q1 : ((acc.length : Int) == 4096) = true := by simp; omega
          rw [if_pos h1] at hS2
          simp only [contL] at hS2
          have HS := Lib.hid hS2
          have HX := Lib.hid (hext n)
          obtain ⟨va, vc, rfl⟩ := own_shape hown
          have hpm : p + n ≤ s.size := by omega
          have X1 : IntKind.i64.wrap ((p : Int) + (n : Int)) = (p : Int) + (n : Int) := IntWalk.i64_in _ (by omega)
          have X2 : 0 ≤ (p : Int) + (n : Int) := by omega
          have X3 : ((p : Int) + (n : Int)).toNat = p + n := by omega
          clear hS2 h0 cS hext hdrop hsk hwl h1 cD
          go_wp2_with (first | (go_at_call 64; (with_reducible refine cW.mono ?_); rintro e w1 ⟨rfl, hb1⟩))
          go_region
          go_wp2
          go_ret2
          refine ⟨?_, ?_⟩
          · exact ((tr hb hb1).alloc (tr hb hb1).size _).drew
          · rw [← HS.out]
            refine ⟨w1.heap.size, (tr hb hb1).size, rfl, ?_⟩
            rw [← HX.out]
            exact heap_alloc_new w1 _
        · have Q1 : ((acc.length : Int) == 4096) = false := by simp; omega
          rw [if_neg h1, contL_cons] at hS2
          have hn0 : 0 < n := by omega
          have HS := Lib.hid hS2
          have HX := Lib.hid (hext n)
          have HD := Lib.hid hdrop
          obtain ⟨q, hq⟩ : ∃ q, skipL (l.drop n) = q := ⟨_, rfl⟩
          have hsk2 : q ≤ l.length - n := by rw [← hq]; exact hsk
          have cSn : ∀ W, Calls Tryz.prog 63 #[.string (s.extract (p + n) s.size)] W fun e w' => e = .returned (.int .i64 q) ∧ Below W.heap.size W w' := fun W => by
            have h := cS (p + n) (by omega) W
            rw [hdrop, hq] at h
            exact h
          have HQ := Lib.hid hq
          have hpm : p + n ≤ s.size := by omega
          have hshape := own_shape hown
          obtain ⟨va, vc, rfl⟩ := hshape
          clear hS2 h0 cS hext hdrop hsk hq cD
          have hlen2 : acc.length < 4096 := by omega
          clear h1
          go_wp2_with (first | (go_at_call 64; (with_reducible refine cW.mono ?_); rintro e w1 ⟨rfl, hb1⟩; have hown1 := own_below hown hb1) | (at_builtin; refine wpList_append_own _ rfl (.tmp 69) (.tmp 79) 41 rfl (w.heap.size) 46 i0 (.agg #[.int .i64 0, .string ⟨#[]⟩, .int .i64 0]) 3 32 Tryz.underlying41 hi hz0 hz1 hz2 rfl (by decide) _ _ _ rfl (hown1.alloc _) ⟨w1.heap.size, 0, none⟩ 1 1 [.int .i64 (k : Int), .string (s.extract p (p + n)), .int .i64 (p : Int)] rfl rfl (cell_three_new _ _ _ _ _) (fun x hx => by simp at hx; rcases hx with rfl | rfl | rfl <;> rfl) (by unfold maxLen; omega) (by omega) (by have := hb.size; have := hb1.size; simp; omega) ?_; intro v' w3 hown' hgrow3 hnil3) | (go_at_call 63; (with_reducible refine (cSn _).mono ?_); rintro e w4 ⟨rfl, hb4⟩))
          have hbw3 : Below w.heap.size w w3 := Below.grown ((tr hb hb1).alloc (tr hb hb1).size _) hgrow3 (by have := (tr hb hb1).size; simp; omega) (fun j hj => (hown1.lt _ hj).1)
          go_roundg g'
          case measure => omega
          case rel =>
            refine ⟨p + n + q, acc ++ [(k, l.take n, p)], by go_num, by omega, tr hbw3 hb4, ?_, by simp; omega, ?_, by omega⟩
            · have h := own_below hown' hb4
              rw [tkFlat_app, tkFlat_one]
              simp only [tkCells]
              rw [← HX.out]
              simpa using h
            · have h := HS.out
              rw [HQ.out] at h
              rw [Nat.add_assoc p n q, HD.out, List.length_append, List.length_singleton]
              rw [Nat.add_assoc p n q] at h
              exact h
    · have hnil : s.data.toList.drop p = [] := List.drop_eq_nil_of_le (by rw [← Lib.size_eq]; omega)
      have hS2 := hS.out
      have htk : toksL gk acc.length p [] = .ok [] := by cases gk <;> simp [toksL]
      rw [hnil, htk] at hS2
      simp only [contL, List.append_nil] at hS2
      have HS := Lib.hid hS2
      clear hS2 hS hnil htk
      go_wp2
      go_ret2
      refine ⟨hb, ?_⟩
      rw [← HS.out]
      exact ⟨_, rfl, hown⟩
end Go.Proofs.YtpbkeamjdolpgaaGreatDoor
namespace Go.Proofs.YtpbkeamjdolpgaaGreatDoor
open Go.RowKit Go.Lib

theorem tokens_all (s : ByteArray) (w : World) (hG : Gl w) : Calls Tryz.prog 30 #[.string s] w (TokEnd (tokensL s.data.toList) w) := by
  by_cases h : s.size ≤ 65536
  · exact tokens_any s w h hG
  · exact tokens_long s w (by omega)

end Go.Proofs.YtpbkeamjdolpgaaGreatDoor
namespace Go.Proofs.YtpbkeamjdolpgaaGreatDoor
open Go.RowKit Go.Lib Go.Shelf

theorem plain_ok (s : List UInt8) : plainR s = (nameOk s && !resv s) := by
  unfold plainR
  rw [nameOk_eq]
  by_cases h : nameL s = s.length
  · rw [h]
  · simp [h]
set_option maxHeartbeats 4000000 in
set_option maxRecDepth 100000 in
theorem plain_any (s : List UInt8) (w : World) (hs : s.length ≤ 2 ^ 47) (hG : Gl w) :
    Calls Tryz.prog 94 #[.string ⟨s.toArray⟩] w (Yes (plainR s) w) := by
  have c1 := lname_any ⟨s.toArray⟩ w (by unfold maxLen; show s.toArray.size ≤ _; simp; omega) hG
  have c2 := fun w1 => reserved_any s w1
  rw [plain_ok]
  have e : (⟨s.toArray⟩ : ByteArray).data.toList = s := rfl
  rw [e] at c1
  cases hN : nameOk s
  · rw [hN] at c1
    rw [Bool.false_and]
    clear hN hs hG e
    go_enter Tryz.func94, Tryz.ntmps94
    go_wp2_with fail
    refine c1.mono ?_
    clear c1
    rintro e w1 ⟨rfl, hb1⟩
    go_wp2_with fail
    go_ret
    exact ⟨rfl, hb1⟩
  · rw [hN] at c1
    rw [Bool.true_and]
    clear hN hs hG e
    go_enter Tryz.func94, Tryz.ntmps94
    go_wp2_with fail
    refine c1.mono ?_
    clear c1
    rintro e w1 ⟨rfl, hb1⟩
    go_wp2_with fail
    refine (c2 _).mono ?_
    clear c2
    rintro e w2 ⟨rfl, hb2⟩
    go_wp2_with fail
    go_ret
    exact ⟨rfl, tr hb1 hb2⟩
theorem levelS_at {s : List UInt8} {i : Nat} (hi : i < 5) (h : ∀ k, k < i → s ∉ signsK k) (hs : s ∈ signsK i) : levelS s = i + 1 := by
  unfold levelS
  match i, hi with
  | 0, _ => rw [if_pos hs]
  | 1, _ => rw [if_neg (h 0 (by omega)), if_pos hs]
  | 2, _ => rw [if_neg (h 0 (by omega)), if_neg (h 1 (by omega)), if_pos hs]
  | 3, _ => rw [if_neg (h 0 (by omega)), if_neg (h 1 (by omega)), if_neg (h 2 (by omega)), if_pos hs]
  | 4, _ => rw [if_neg (h 0 (by omega)), if_neg (h 1 (by omega)), if_neg (h 2 (by omega)), if_neg (h 3 (by omega)), if_pos hs]
theorem levelS_no {s : List UInt8} (h : ∀ k, k < 5 → s ∉ signsK k) : levelS s = 0 := by
  unfold levelS
  rw [if_neg (h 0 (by omega)), if_neg (h 1 (by omega)), if_neg (h 2 (by omega)), if_neg (h 3 (by omega)), if_neg (h 4 (by omega))]
set_option maxHeartbeats 4000000 in
set_option maxRecDepth 100000 in
theorem levelC_any (s : List UInt8) (w : World) :
    Calls Tryz.prog 187 #[.string ⟨s.toArray⟩] w fun e w' => e = .returned (.int .i64 (levelS s)) ∧ Below w.heap.size w w' := by
  have c0 := signs_any w
  obtain ⟨L, hL⟩ : ∃ L, levelS s = L := ⟨_, rfl⟩
  rw [hL]
  have HL := Lib.hid hL
  clear hL
  go_enter Tryz.func187, Tryz.ntmps187
  go_wp2_with fail
  refine c0.mono ?_
  clear c0
  rintro e w1 ⟨rfl, hb1, hS⟩
  have HS := Lib.hid hS
  clear hS
  generalize w.heap.size + 1 = g at *
  have ix0 : ∀ wx : World, (Instr.index 219 (.agg (sgArr g)) (.int .i64 0)).run Tryz.prog wx = .ok (sgV g 0) wx := fun wx => by kernel_rfl
  have ix1 : ∀ wx : World, (Instr.index 219 (.agg (sgArr g)) (.int .i64 1)).run Tryz.prog wx = .ok (sgV (g + 1) 1) wx := fun wx => by kernel_rfl
  have ix2 : ∀ wx : World, (Instr.index 219 (.agg (sgArr g)) (.int .i64 2)).run Tryz.prog wx = .ok (sgV (g + 2) 2) wx := fun wx => by kernel_rfl
  have ix3 : ∀ wx : World, (Instr.index 219 (.agg (sgArr g)) (.int .i64 3)).run Tryz.prog wx = .ok (sgV (g + 3) 3) wx := fun wx => by kernel_rfl
  have ix4 : ∀ wx : World, (Instr.index 219 (.agg (sgArr g)) (.int .i64 4)).run Tryz.prog wx = .ok (sgV (g + 4) 4) wx := fun wx => by kernel_rfl
  have ix : ∀ (k : Nat) (hk : k ≤ 4) (wx : World), (Instr.index 219 (.agg (sgArr g)) (.int .i64 k)).run Tryz.prog wx = .ok (.slice (some ⟨g + k, 0, none⟩) (signsK k).length (signsK k).length) wx := by
    intro k hk wx
    match k, hk with
    | 0, _ => exact ix0 wx
    | 1, _ => exact ix1 wx
    | 2, _ => exact ix2 wx
    | 3, _ => exact ix3 wx
    | 4, _ => exact ix4 wx
  have IX := Lib.hid ix
  clear ix ix0 ix1 ix2 ix3 ix4
  go_wp2_with fail
  go_loopw [6] (fun v wx => ∃ i : Nat, v = .int .i64 i ∧ i ≤ 5 ∧ Below w.heap.size w wx ∧ SgAll wx g ∧ Hid (∀ k, k < i → s ∉ signsK k)) (fun v _ => 5 - (RowKit.intOf v).toNat)
  case atStart => exact ⟨0, rfl, by omega, hb1, HS.out, fun k hk => by omega⟩
  case round =>
    obtain ⟨i, rfl, hi, hb, hsg, hf⟩ := hrel
    by_cases hlt : i < 5
    · have hix := IX.out i (by omega)
      have hlen : (signsK i).length ≤ 4096 := by
        match i, hlt with
        | 0, _ => decide
        | 1, _ => decide
        | 2, _ => decide
        | 3, _ => decide
        | 4, _ => decide
      have c1 := contains_any (signsK i) (signsK i).length rfl hlen (g + i) 0 (signsK i).length s wr (hsg i (by omega)).1
      obtain ⟨nl, hnl⟩ : ∃ nl, (signsK i).length = nl := ⟨_, rfl⟩
      rw [hnl] at c1 hix
      have HSG := Lib.hid hsg
      have hb5 : (i : Int) < 5 := by omega
      have Qi : IntKind.i64.wrap ((i : Int) + 1) = (i : Int) + 1 := IntWalk.i64_in _ (by omega)
      cases hB : decide (s ∈ signsK i)
      · rw [hB] at c1
        have hf2 : Hid (∀ k, k < i + 1 → s ∉ signsK k) := fun k hk => by
          by_cases e : k = i
          · subst e
            simpa using hB
          · exact hf.out k (by omega)
        clear hB hlen hnl hsg hf
        go_wp2_with fail
        refine c1.mono ?_
        clear c1
        rintro e w2 ⟨rfl, rfl⟩
        go_wp2_with fail
        go_roundw
        case rel => exact ⟨i + 1, by go_num, by omega, hb, HSG.out, hf2⟩
        case measure => simp [RowKit.intOf]; omega
      · rw [hB] at c1
        have hf2 : Hid (L = i + 1) := by
          have h1 := levelS_at hlt hf.out (by simpa using hB)
          exact HL.out.symm.trans h1
        clear hB hlen hnl hsg hf
        go_wp2_with fail
        refine c1.mono ?_
        clear c1
        rintro e w2 ⟨rfl, rfl⟩
        go_wp2_with fail
        go_ret
        exact ⟨by rw [hf2.out]; rfl, hb⟩
    · have hf2 : Hid (L = 0) := by
        have h1 := levelS_no (s := s) (fun k hk => hf.out k (by omega))
        exact HL.out.symm.trans h1
      have hb5 : ¬ (i : Int) < 5 := by omega
      clear hsg hf
      go_wp2_with fail
      go_ret
      exact ⟨by rw [hf2.out]; rfl, hb⟩
end Go.Proofs.YtpbkeamjdolpgaaGreatDoor
