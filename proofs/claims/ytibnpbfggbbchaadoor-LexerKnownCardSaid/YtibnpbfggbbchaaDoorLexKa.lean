/- What LexerKnown's calls answer. -/
import Derived.Test.YtibnpbfggbbchaaDoorLexZb
import Derived.Test.YtibnpbfggbbchaaDoorLexU
namespace Go.Proofs.YtibnpbfggbbchaaDoor
open Go.RowKit Go.Lib

/-! ### a a a .. -/
def aText : Nat → List UInt8
  | 0 => []
  | n + 1 => 97 :: 32 :: aText n
theorem aText_len : ∀ n, (aText n).length = 2 * n
  | 0 => rfl
  | n + 1 => by
    have := aText_len n
    simp only [aText, List.length_cons]
    omega
theorem aText_at : ∀ (n j : Nat) (r : List UInt8), j < 2 * n → (aText n ++ r)[j]? = some (if j % 2 = 0 then 97 else 32)
  | 0, j, r, h => by omega
  | n + 1, 0, r, _ => rfl
  | n + 1, 1, r, _ => rfl
  | n + 1, j + 2, r, h => by
    have ih := aText_at n j r (by omega)
    have e : (aText (n + 1) ++ r)[j + 2]? = (aText n ++ r)[j]? := rfl
    rw [e, ih, show (j + 2) % 2 = j % 2 by omega]
theorem word_a : wordL [97] = (0, 1) := by kernel_rfl
theorem word_a2 (r : List UInt8) : wordL (97 :: 32 :: r) = (0, 1) := by
  have h := wordL_app [97] 32 r (by simp) (by decide)
  rw [word_a] at h
  exact h
theorem skip_a (r : List UInt8) : skipL (97 :: r) = 0 := by
  unfold skipL
  rw [skip_zero]
  exact ⟨by decide, fun h => absurd h.1 (by decide)⟩
theorem skip_32 (l : List UInt8) (h : skipL l = 0) : skipL (32 :: l) = 1 := by
  unfold skipL at h ⊢
  rw [skip_cons, if_pos (by decide), h]
theorem skip_aText (n : Nat) (r : List UInt8) (h : skipL r = 0) : skipL (aText n ++ r) = 0 := by
  cases n with
  | zero => exact h
  | succ n => exact skip_a _
theorem toksL_a (r : List UInt8) (hr : skipL r = 0) (f k p : Nat) (n : Nat) (hk : k < 4096) : toksL (f + 1) k p (aText (n + 1) ++ r) = match toksL f (k + 1) (p + 2) (aText n ++ r) with
      | .ok ts => .ok ((0, [97], p) :: ts)
      | .error e => .error e := by
  have e : aText (n + 1) ++ r = 97 :: 32 :: (aText n ++ r) := rfl
  rw [e, toksL_step _ _ _ _ (by simp), word_a2]
  dsimp only
  have hs : skipL (32 :: (aText n ++ r)) = 1 := skip_32 _ (skip_aText n r hr)
  have hd1 : (97 :: 32 :: (aText n ++ r)).drop 1 = 32 :: (aText n ++ r) := rfl
  rw [if_neg (by decide), if_neg (by omega), hd1, hs]
  rfl
theorem toks_even : ∀ (n f k p : Nat), 2 * n ≤ f → k + n ≤ 4096 → ∃ ts, toksL f k p (aText n ++ []) = .ok ts ∧ ts.length = n
  | 0, f, k, p, _, _ => ⟨[], by cases f <;> simp [toksL, aText], rfl⟩
  | n + 1, f, k, p, hf, hk => by
    obtain ⟨g, rfl⟩ : ∃ g, f = g + 1 := ⟨f - 1, by omega⟩
    obtain ⟨ts, h1, h2⟩ := toks_even n g (k + 1) (p + 2) (by omega) (by omega)
    rw [toksL_a [] rfl g k p n (by omega), h1]
    exact ⟨_, rfl, by simp [h2]⟩
theorem toks_odd : ∀ (n f k p : Nat), 2 * n + 1 ≤ f → k + n = 4096 → toksL f k p (aText n ++ [97]) = .error (3, p + 2 * n, [97])
  | 0, f, k, p, hf, hk => by
    obtain ⟨g, rfl⟩ : ∃ g, f = g + 1 := ⟨f - 1, by omega⟩
    have e : aText 0 ++ [97] = [97] := rfl
    rw [e, toksL_step _ _ _ _ (by simp), word_a]
    dsimp only
    rw [if_neg (by decide), if_pos (by omega)]
    rfl
  | n + 1, f, k, p, hf, hk => by
    obtain ⟨g, rfl⟩ : ∃ g, f = g + 1 := ⟨f - 1, by omega⟩
    rw [toksL_a [97] (skip_a []) g k p n (by omega), toks_odd n g (k + 1) (p + 2) (by omega) (by omega)]
    rw [show p + 2 + 2 * n = p + 2 * (n + 1) by omega]
theorem tokens_even : ∃ ts, tokensL (aText 4096 ++ []) = .ok ts ∧ ts.length = 4096 := by
  unfold tokensL
  have hl : (aText 4096 ++ []).length = 8192 := by rw [List.append_nil, aText_len]
  rw [hl, if_neg (by decide), skip_aText 4096 [] rfl, List.drop_zero]
  exact toks_even 4096 8192 0 0 (by decide) (by decide)
theorem tokens_odd : tokensL (aText 4096 ++ [97]) = .error (3, 8192, [97]) := by
  unfold tokensL
  have hl : (aText 4096 ++ [97]).length = 8193 := by rw [List.length_append, aText_len]; rfl
  rw [hl, if_neg (by decide), skip_aText 4096 [97] (skip_a []), List.drop_zero, toks_odd 4096 8193 0 0 (by decide) (by decide)]

/-! ### The texts that fail -/
def badTexts : List (List UInt8 × Nat × List UInt8) := [([49, 50, 46], 2, [46]), ([97, 46, 98], 1, [46]), ([38], 0, [38]), ([195, 169, 226, 130, 172], 2, [226, 130, 172]), ([255], 0, [255]), ([97, 32, 0], 2, [0]),
  ([49, 46, 50, 46, 51], 3, [46]), ([97, 124, 98], 1, [124]), ([239, 191, 189], 0, [239, 191, 189]), ([12], 0, [12]), ([97, 11], 1, [11]), ([194, 160], 0, [194, 160])]
theorem bad_all : badTexts.map (fun d => match tokensL d.1 with | .ok _ => none | .error f => some f) = badTexts.map fun d => some (260, d.2.1, d.2.2) := by kernel_rfl
theorem bad_at (i : Nat) (d : List UInt8 × Nat × List UInt8) (h : badTexts[i]? = some d) : tokensL d.1 = .error (260, d.2.1, d.2.2) := by
  have h1 := congrArg (fun l => l[i]?) bad_all
  simp only [List.getElem?_map, h, Option.map_some, Option.some.injEq] at h1
  cases ht : tokensL d.1 with
  | ok ts => rw [ht] at h1; simp at h1
  | error f => rw [ht] at h1; simp only [Option.some.injEq] at h1; rw [h1]

/-- Tokens of a text that fails: the fault's cells. -/
theorem tokens_fault (s : ByteArray) (f : Flt) (w : World) (hG : Gl w) (h : tokensL s.data.toList = .error f) :
    Calls Tryd.prog 13 #[.string s] w fun e w' => ∃ b, e = .returned (.tuple #[.slice none 0 0, .iface 32 (.pointer (some ⟨b, 0, none⟩))]) ∧ Below w.heap.size w w' ∧
      w'.heap[b]? = some (.cells #[.int .i64 f.1, .int .i64 f.2.1, .string ⟨f.2.2.toArray⟩] 46 (0, 0)) := by
  have c := tokens_all s w hG
  rw [h] at c
  refine c.mono ?_
  rintro e w' ⟨hb, b, _, rfl, hc⟩
  exact ⟨b, rfl, hb, hc⟩
theorem known_1 : tokensL [195, 164, 49, 32, 95, 32, 48, 48, 55] = .ok [(0, [195, 164, 49], 0), (0, [95], 4), (1, [48, 48, 55], 6)] := by kernel_rfl
theorem known_2 : tokensL [49, 97] = .ok [(1, [49], 0), (0, [97], 1)] := by kernel_rfl
theorem known_3 : tokensL [47, 47, 32, 255, 0] = .ok [] := by kernel_rfl
theorem known_names : nameOk [97, 32, 98] = false ∧ nameOk [120, 95, 49] = true ∧ nameOk [] = false ∧ nameOk [49] = false ∧ nameOk [95] = true ∧ nameOk [97, 255] = false := ⟨by kernel_rfl, by kernel_rfl, by kernel_rfl, by kernel_rfl, by kernel_rfl, by kernel_rfl⟩
theorem known_j1 : joinR [(0, ⟨#[97]⟩, 0), (2, ⟨#[40]⟩, 0)] = ([97, 32, 40], 0) := by kernel_rfl
theorem known_j2 : joinR [(0, ⟨#[49]⟩, 0)] = ([], 2) := by kernel_rfl
theorem known_j3 : joinR (List.replicate 4097 (0, ⟨#[]⟩, 0)) = ([], 3) := by
  unfold joinR
  rw [if_pos (by rw [List.length_replicate]; decide)]
theorem known_big (s : ByteArray) (h : 65536 < s.size) : tokensL s.data.toList = .error (3, 0, []) := by
  unfold tokensL
  rw [if_pos (by rw [← Lib.size_eq]; exact h)]
end Go.Proofs.YtibnpbfggbbchaaDoor
