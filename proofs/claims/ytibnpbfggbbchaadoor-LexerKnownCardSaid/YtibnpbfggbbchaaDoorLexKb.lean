/- The walk of LexerKnown. -/
import Derived.Test.YtibnpbfggbbchaaDoorLexKa
import Derived.Test.YtibnpbfggbbchaaDoorLexN
namespace Go.Proofs.YtibnpbfggbbchaaDoor
open Go.RowKit Go.Lib

theorem kn_1 (w W : World) (hG : Gl w) (hb : Below w.heap.size w W) : Calls Tryd.prog 13 #[.string ⟨#[195, 164, 49, 32, 95, 32, 48, 48, 55]⟩] W fun e w' => ∃ g c, e = .returned (.tuple #[.slice (some ⟨g, 0, none⟩) 3 c, .nilIface]) ∧ Below w.heap.size w w' ∧
    w'.cell? ⟨g, 0, none⟩ = some (.int .i64 0) ∧ w'.cell? ⟨g, 1, none⟩ = some (.string ⟨#[195, 164, 49]⟩) ∧ w'.cell? ⟨g, 2, none⟩ = some (.int .i64 0) ∧ w'.cell? ⟨g, 3, none⟩ = some (.int .i64 0) ∧ w'.cell? ⟨g, 4, none⟩ = some (.string ⟨#[95]⟩) ∧ w'.cell? ⟨g, 5, none⟩ = some (.int .i64 4) ∧
    w'.cell? ⟨g, 6, none⟩ = some (.int .i64 1) ∧ w'.cell? ⟨g, 7, none⟩ = some (.string ⟨#[48, 48, 55]⟩) ∧ w'.cell? ⟨g, 8, none⟩ = some (.int .i64 6) := by
  refine (tokens_all _ W (hG.below hb)).mono fun e w' h => ?_
  have e1 : tokensL (⟨#[195, 164, 49, 32, 95, 32, 48, 48, 55]⟩ : ByteArray).data.toList = .ok [(0, [195, 164, 49], 0), (0, [95], 4), (1, [48, 48, 55], 6)] := known_1
  rw [e1] at h
  obtain ⟨hb', v, he, hown⟩ := h
  obtain ⟨g, cap, rfl, h1, h2, h3⟩ := own_some hown (by decide)
  exact ⟨g, cap, he, tr hb hb', h3 0 (by decide), h3 1 (by decide), h3 2 (by decide), h3 3 (by decide), h3 4 (by decide), h3 5 (by decide), h3 6 (by decide), h3 7 (by decide), h3 8 (by decide)⟩
theorem kn_2 (w W : World) (hG : Gl w) (hb : Below w.heap.size w W) : Calls Tryd.prog 13 #[.string ⟨#[49, 97]⟩] W fun e w' => ∃ g c, e = .returned (.tuple #[.slice (some ⟨g, 0, none⟩) 2 c, .nilIface]) ∧ Below w.heap.size w w' ∧
    w'.cell? ⟨g, 0, none⟩ = some (.int .i64 1) ∧ w'.cell? ⟨g, 4, none⟩ = some (.string ⟨#[97]⟩) := by
  refine (tokens_all _ W (hG.below hb)).mono fun e w' h => ?_
  have e1 : tokensL (⟨#[49, 97]⟩ : ByteArray).data.toList = .ok [(1, [49], 0), (0, [97], 1)] := known_2
  rw [e1] at h
  obtain ⟨hb', v, he, hown⟩ := h
  obtain ⟨g, cap, rfl, h1, h2, h3⟩ := own_some hown (by decide)
  exact ⟨g, cap, he, tr hb hb', h3 0 (by decide), h3 4 (by decide)⟩
theorem kn_3 (w W : World) (hG : Gl w) (hb : Below w.heap.size w W) : Calls Tryd.prog 13 #[.string ⟨#[47, 47, 32, 255, 0]⟩] W fun e w' => ∃ x c, e = .returned (.tuple #[.slice x 0 c, .nilIface]) ∧ Below W.heap.size W w' := by
  refine (tokens_all _ W (hG.below hb)).mono fun e w' h => ?_
  have e1 : tokensL (⟨#[47, 47, 32, 255, 0]⟩ : ByteArray).data.toList = .ok [] := known_3
  rw [e1] at h
  obtain ⟨hb', v, he, hown⟩ := h
  obtain ⟨x, c, rfl⟩ := own_shape hown
  exact ⟨x, c, he, hb'⟩
theorem kn_n (w W : World) (hG : Gl w) (hb : Below w.heap.size w W) (S : ByteArray) (hs : S.size ≤ maxLen) (B : Bool) (h : nameOk S.data.toList = B) : Calls Tryd.prog 10 #[.string S] W fun e w' => e = .returned (.bool B) ∧ Below w.heap.size w w' := by
  refine (name_any S W hs (hG.below hb)).mono ?_
  rintro e w' ⟨rfl, hb'⟩
  exact ⟨by rw [h], tr hb hb'⟩
theorem kn_j1 (w W : World) (hG : Gl w) (hb : Below w.heap.size w W) : Calls Tryd.prog 18 #[.slice (some ⟨W.heap.size, 0, none⟩) 2 2] (W.alloc (.cells #[.int .i64 0, .string ⟨#[97]⟩, .int .i64 0, .int .i64 2, .string ⟨#[40]⟩, .int .i64 0] 30)) fun e w' =>
    e = .returned (.tuple #[.string ⟨#[97, 32, 40]⟩, .int .i64 0]) ∧ Below w.heap.size w w' := by
  have hb1 := hb.alloc hb.size (.cells #[.int .i64 0, .string ⟨#[97]⟩, .int .i64 0, .int .i64 2, .string ⟨#[40]⟩, .int .i64 0] 30)
  have h := joinA_all [(0, ⟨#[97]⟩, 0), (2, ⟨#[40]⟩, 0)] 2 rfl (some ⟨W.heap.size, 0, none⟩) 2 (W.alloc (.cells #[.int .i64 0, .string ⟨#[97]⟩, .int .i64 0, .int .i64 2, .string ⟨#[40]⟩, .int .i64 0] 30)) (by
    have hr := heap_alloc_new W (.cells #[.int .i64 0, .string ⟨#[97]⟩, .int .i64 0, .int .i64 2, .string ⟨#[40]⟩, .int .i64 0] 30)
    intro i u hu
    match i, hu with
    | 0, hu => simp at hu; subst hu; exact ⟨_, _, rfl, cell_of_row _ _ 0 _ _ _ hr, cell_of_row _ _ 1 _ _ _ hr, cell_of_row _ _ 2 _ _ _ hr⟩
    | 1, hu => simp at hu; subst hu; exact ⟨_, _, rfl, cell_of_row _ _ 3 _ _ _ hr, cell_of_row _ _ 4 _ _ _ hr, cell_of_row _ _ 5 _ _ _ hr⟩
    | i + 2, hu => simp at hu) (by decide) (hG.below hb1)
  rw [known_j1] at h
  refine h.mono ?_
  rintro e w' ⟨rfl, hb'⟩
  exact ⟨rfl, tr hb1 hb'⟩
theorem kn_j2 (w W : World) (hG : Gl w) (hb : Below w.heap.size w W) : Calls Tryd.prog 18 #[.slice (some ⟨W.heap.size, 0, none⟩) 1 1] (W.alloc (.cells #[.int .i64 0, .string ⟨#[49]⟩, .int .i64 0] 30)) fun e w' =>
    e = .returned (.tuple #[.string ⟨#[]⟩, .int .i64 2]) ∧ Below w.heap.size w w' := by
  have hb1 := hb.alloc hb.size (.cells #[.int .i64 0, .string ⟨#[49]⟩, .int .i64 0] 30)
  have h := joinA_all [(0, ⟨#[49]⟩, 0)] 1 rfl (some ⟨W.heap.size, 0, none⟩) 1 (W.alloc (.cells #[.int .i64 0, .string ⟨#[49]⟩, .int .i64 0] 30)) (by
    have hr := heap_alloc_new W (.cells #[.int .i64 0, .string ⟨#[49]⟩, .int .i64 0] 30)
    intro i u hu
    match i, hu with
    | 0, hu => simp at hu; subst hu; exact ⟨_, _, rfl, cell_of_row _ _ 0 _ _ _ hr, cell_of_row _ _ 1 _ _ _ hr, cell_of_row _ _ 2 _ _ _ hr⟩
    | i + 1, hu => simp at hu) (by decide) (hG.below hb1)
  rw [known_j2] at h
  refine h.mono ?_
  rintro e w' ⟨rfl, hb'⟩
  exact ⟨rfl, tr hb1 hb'⟩
theorem kn_j3 (w W : World) (hb : Below w.heap.size w W) (x : Option Addr) (c : Nat) : Calls Tryd.prog 18 #[.slice x 4097 c] W fun e w' => e = .returned (.tuple #[.string ⟨#[]⟩, .int .i64 3]) ∧ Below w.heap.size w w' := by
  have h := join_long (List.replicate 4097 (0, ⟨#[]⟩, 0)) x c W (by rw [List.length_replicate]; decide)
  rw [known_j3, List.length_replicate] at h
  refine h.mono ?_
  rintro e w' ⟨rfl, hb'⟩
  exact ⟨rfl, tr hb hb'⟩

/-- The three lists of the texts that fail, as a world holds them. -/
def BadRows (b : Nat) (W : World) : Prop := ∀ i d, badTexts[i]? = some d → W.cell? ⟨b, i, none⟩ = some (.string ⟨d.1.toArray⟩) ∧ W.cell? ⟨b + 1, i, none⟩ = some (.int .i64 d.2.1) ∧ W.cell? ⟨b + 1 + 1, i, none⟩ = some (.string ⟨d.2.2.toArray⟩)
def badT : Obj := .cells (badTexts.map fun d => Value.string ⟨d.1.toArray⟩).toArray 9
def badP : Obj := .cells (badTexts.map fun d => Value.int .i64 d.2.1).toArray 3
def badW : Obj := .cells (badTexts.map fun d => Value.string ⟨d.2.2.toArray⟩).toArray 9
theorem BadRows.below {b : Nat} {W W' : World} (h : BadRows b W) (hb : Below W.heap.size W W') : BadRows b W' := by
  intro i d hd
  obtain ⟨h1, h2, h3⟩ := h i d hd
  exact ⟨(hb.cell (p := ⟨b, i, none⟩) (World.block_lt_of_cell? W _ h1)).trans h1, (hb.cell (p := ⟨b + 1, i, none⟩) (World.block_lt_of_cell? W _ h2)).trans h2, (hb.cell (p := ⟨b + 1 + 1, i, none⟩) (World.block_lt_of_cell? W _ h3)).trans h3⟩
theorem bad_rows (w : World) : BadRows w.heap.size (((w.alloc badT).alloc badP).alloc badW) := by
  intro i d hd
  have hm : ∀ (f : List UInt8 × Nat × List UInt8 → Value), (badTexts.map f).toArray[i]? = some (f d) := fun f => by
    rw [List.getElem?_toArray, List.getElem?_map, hd]
    rfl
  have h1 : (((w.alloc badT).alloc badP).alloc badW).heap[w.heap.size]? = some badT := by
    rw [Below.heap_alloc _ _ _ (by simp; omega), Below.heap_alloc _ _ _ (by simp)]
    exact heap_alloc_new w _
  have h2 : (((w.alloc badT).alloc badP).alloc badW).heap[w.heap.size + 1]? = some badP := by
    rw [Below.heap_alloc _ _ _ (by simp)]
    have h := heap_alloc_new (w.alloc badT) badP
    simpa using h
  have h3 : (((w.alloc badT).alloc badP).alloc badW).heap[w.heap.size + 1 + 1]? = some badW := by
    have h := heap_alloc_new ((w.alloc badT).alloc badP) badW
    simpa using h
  exact ⟨(cell_of_row _ _ i _ _ _ h1).trans (hm _), (cell_of_row _ _ i _ _ _ h2).trans (hm _), (cell_of_row _ _ i _ _ _ h3).trans (hm _)⟩

/-- The bytes a a a .. -/
def AllA (T : List UInt8) : Prop := T.length = 8192 ∧ (∀ j r, j < 8192 → (T ++ r)[j]? = some (if j % 2 = 0 then (97 : UInt8) else 32)) ∧ (∃ ts, tokensL (T ++ []) = .ok ts ∧ ts.length = 4096) ∧ tokensL (T ++ [97]) = .error (3, 8192, [97])
theorem allA : ∃ T, AllA T := ⟨aText 4096, aText_len 4096, fun j r h => aText_at 4096 j r h, tokens_even, tokens_odd⟩
/-- The bytes a a a .. as text: all but the last one, and all. -/
theorem kn_conv (T : List UInt8) (hT : AllA T) (b : Nat) (xs : List Value) (hp : ∀ j, j < 8193 → xs[j]? = some (.int .u8 (if j % 2 = 0 then 97 else 32))) (w : World) {B : Nat} (h : w.ownsRow B 5 1 (.slice (some ⟨b, 0, none⟩) 8193 8193) 8193 xs) :
    (convert 47 9 (.slice (some ⟨b, 0, none⟩) 8192 8193)).run Tryd.prog w = .ok (.string ⟨(T ++ []).toArray⟩) w ∧
    (convert 47 9 (.slice (some ⟨b, 0, none⟩) 8193 8193)).run Tryd.prog w = .ok (.string ⟨(T ++ [97]).toArray⟩) w := by
  obtain ⟨hl, hj0, _, _⟩ := hT
  have hcell : ∀ j, j < 8193 → w.cell? ((⟨b, 0, none⟩ : Addr).add j) = some (.int .u8 (if j % 2 = 0 then 97 else 32)) := fun j hj => by
    rw [Addr.add_lit, Nat.zero_add, h.cellAt j (by omega)]
    exact hp j hj
  have key : ∀ (r : List UInt8) (n : Nat), (T ++ r).length = n → n ≤ 8193 → (∀ j (hj : j < (T ++ r).length), (T ++ r)[j] = if j % 2 = 0 then 97 else 32) → (convert 47 9 (.slice (some ⟨b, 0, none⟩) n 8193)).run Tryd.prog w = .ok (.string ⟨(T ++ r).toArray⟩) w := by
    intro r n hn hle hj
    subst hn
    refine run_convert_bytes_back w 47 9 5 ⟨b, 0, none⟩ 8193 (T ++ r) Tryd.underlying47 Tryd.underlying5 Tryd.underlying9 (fun j hjl => ?_)
    rw [hcell j (by omega), hj j hjl]
    split <;> rfl
  constructor
  · refine key [] 8192 (by rw [List.append_nil, hl]) (by decide) (fun j hj => ?_)
    have h1 := hj0 j [] (by rw [List.append_nil, hl] at hj; exact hj)
    rw [List.getElem?_eq_getElem hj] at h1
    exact Option.some.inj h1
  · refine key [97] 8193 (by rw [List.length_append, hl]; rfl) (by decide) (fun j hj => ?_)
    by_cases hj2 : j < 8192
    · have h1 := hj0 j [97] hj2
      rw [List.getElem?_eq_getElem hj] at h1
      exact Option.some.inj h1
    · have h3 : j = T.length := by rw [List.length_append, hl] at hj; simp only [List.length_singleton] at hj; omega
      have h4 : (T ++ [97])[j]? = some 97 := by rw [h3, List.getElem?_append_right (Nat.le_refl _), Nat.sub_self]; rfl
      rw [List.getElem?_eq_getElem hj] at h4
      rw [Option.some.inj h4, if_pos (by omega)]
theorem toList_mk (l : List UInt8) : (⟨l.toArray⟩ : ByteArray).data.toList = l := by simp
theorem tokens_len (s : ByteArray) (ts : List Tk) (n : Nat) (w W : World) (hG : Gl w) (hb : Below w.heap.size w W) (h : tokensL s.data.toList = .ok ts) (hn : ts.length = n) : Calls Tryd.prog 13 #[.string s] W fun e w' => ∃ x c, e = .returned (.tuple #[.slice x n c, .nilIface]) ∧ Below W.heap.size W w' := by
  subst hn
  refine (tokens_ok s ts W (hG.below hb) h).mono ?_
  rintro e w' ⟨x, c, rfl, hb', _⟩
  exact ⟨x, c, rfl, hb'⟩
theorem allA_odd (T : List UInt8) (hT : AllA T) : tokensL (T ++ [97]) = .error (3, 8192, [97]) := hT.2.2.2
theorem allA_odd2 (T : List UInt8) (hT : AllA T) : tokensL (⟨(T ++ [97]).toArray⟩ : ByteArray).data.toList = .error (3, 8192, [97]) := by rw [toList_mk]; exact allA_odd T hT
theorem allA_even (T : List UInt8) (hT : AllA T) : ∃ ts, tokensL (⟨(T ++ []).toArray⟩ : ByteArray).data.toList = .ok ts ∧ ts.length = 4096 := by rw [toList_mk]; exact hT.2.2.1
theorem kn_even (T : List UInt8) (hT : AllA T) (w W : World) (hG : Gl w) (hb : Below w.heap.size w W) : Calls Tryd.prog 13 #[.string ⟨(T ++ []).toArray⟩] W fun e w' => ∃ x c, e = .returned (.tuple #[.slice x 4096 c, .nilIface]) ∧ Below W.heap.size W w' := by
  obtain ⟨ts, h1, h2⟩ := allA_even T hT
  exact tokens_len _ ts _ w W hG hb h1 h2
theorem kn_zeros (n : Nat) (b B : Nat) (w : World) (h : w.ownsRow B 5 1 (.slice (some ⟨b, 0, none⟩) n n) n (madeCells (Value.int .u8 0).cells (n * 1)).toList) : ∃ S : ByteArray, S.size = n ∧ (convert 47 9 (.slice (some ⟨b, 0, none⟩) n n)).run Tryd.prog w = .ok (.string S) w := by
  have hl : (List.replicate n (0 : UInt8)).length = n := List.length_replicate
  refine ⟨⟨(List.replicate n 0).toArray⟩, by rw [Lib.size_eq]; exact hl, ?_⟩
  have hc := run_convert_bytes_back (P := Tryd.prog) w 47 9 5 ⟨b, 0, none⟩ n (List.replicate n 0) Tryd.underlying47 Tryd.underlying5 Tryd.underlying9 (fun j hj => by
    rw [hl] at hj
    rw [Addr.add_lit, Nat.zero_add, h.cellAt j (by omega)]
    have hm : (madeCells (Value.int .u8 0).cells (n * 1)).toList[j]? = some (.int .u8 0) := by
      have hz : (madeCells (Value.int .u8 0).cells (n * 1)) = (Array.range (n * 1)).map (fun _ => Value.int .u8 0) := by
        unfold madeCells
        congr 1
        funext i
        simp [Value.cells, Nat.mod_one]
      rw [hz]
      simp [hj]
    rw [hm]
    simp)
  rw [hl] at hc
  exact hc
theorem kn_odd0 (T : List UInt8) (hT : AllA T) (w W : World) (hG : Gl w) (hb : Below w.heap.size w W) : Calls Tryd.prog 13 #[.string ⟨(T ++ [97]).toArray⟩] W fun e w' => ∃ b, e = .returned (.tuple #[.slice none 0 0, .iface 32 (.pointer (some ⟨b, 0, none⟩))]) ∧ Below W.heap.size W w' ∧
      w'.heap[b]? = some (.cells #[.int .i64 ((3 : Nat) : Int), .int .i64 ((8192 : Nat) : Int), .string ⟨[97].toArray⟩] 46 (0, 0)) :=
  tokens_fault _ (3, 8192, [97]) W (hG.below hb) (allA_odd2 T hT)
theorem kn_odd (T : List UInt8) (hT : AllA T) (w W : World) (hG : Gl w) (hb : Below w.heap.size w W) : Calls Tryd.prog 13 #[.string ⟨(T ++ [97]).toArray⟩] W fun e w' => ∃ b, e = .returned (.tuple #[.slice none 0 0, .iface 32 (.pointer (some ⟨b, 0, none⟩))]) ∧ Below W.heap.size W w' ∧
      w'.heap[b]? = some (.cells #[.int .i64 3, .int .i64 8192, .string ⟨#[97]⟩] 46 (0, 0)) := by
  refine (kn_odd0 T hT w W hG hb).mono ?_
  rintro e w' ⟨b, rfl, h1, h2⟩
  have e1 : ((3 : Nat) : Int) = 3 := by simp
  have e2 : ((8192 : Nat) : Int) = 8192 := by simp
  rw [e1, e2] at h2
  exact ⟨b, rfl, h1, h2⟩
theorem kn_big (w W : World) (hG : Gl w) (hb : Below w.heap.size w W) (S : ByteArray) (hs : 65536 < S.size) : Calls Tryd.prog 13 #[.string S] W fun e w' => ∃ b, e = .returned (.tuple #[.slice none 0 0, .iface 32 (.pointer (some ⟨b, 0, none⟩))]) ∧ Below W.heap.size W w' ∧
      w'.heap[b]? = some (.cells #[.int .i64 3, .int .i64 0, .string ⟨#[]⟩] 46 (0, 0)) :=
  tokens_fault S (3, 0, []) W (hG.below hb) (known_big S hs)

theorem kn_told0 (c p : Nat) (T : ByteArray) (b1 : Nat) (w W : World) (hE : GlE w) (hb : Below w.heap.size w W) (h1 : W.heap[b1]? = some (.cells #[.int .i64 c, .int .i64 p, .string T] 46 (0, 0))) :
    Calls Tryd.prog 17 #[.iface 32 (.pointer (some ⟨b1, 0, none⟩)), .pointer (some ⟨W.heap.size, 0, none⟩)] (W.alloc (.cells #[.int .i64 c, .int .i64 p, .string T] 46)) fun e w' => e = .returned (.bool true) ∧ Below W.heap.size W w' := by
  have hA : Below W.heap.size W (W.alloc (.cells #[.int .i64 c, .int .i64 p, .string T] 46)) := (Below.refl _ _).alloc (Nat.le_refl _) _
  refine (told_hit c p T b1 W.heap.size _ (hE.below (tr hb hA)) (by rw [Below.heap_alloc _ _ _ (Array.getElem?_eq_some_iff.1 h1).1]; exact h1) (heap_alloc_new W _)).mono ?_
  rintro e w' ⟨rfl, hb'⟩
  exact ⟨rfl, tr hA hb'⟩
theorem kn_told (c p : Nat) (C P : Int) (hC : (c : Int) = C) (hP : (p : Int) = P) (T : ByteArray) (b1 : Nat) (w W : World) (hE : GlE w) (hb : Below w.heap.size w W) (h1 : W.heap[b1]? = some (.cells #[.int .i64 C, .int .i64 P, .string T] 46 (0, 0))) :
    Calls Tryd.prog 17 #[.iface 32 (.pointer (some ⟨b1, 0, none⟩)), .pointer (some ⟨W.heap.size, 0, none⟩)] (W.alloc (.cells #[.int .i64 C, .int .i64 P, .string T] 46)) fun e w' => e = .returned (.bool true) ∧ Below W.heap.size W w' := by
  subst hC
  subst hP
  exact kn_told0 c p T b1 w W hE hb h1

set_option maxHeartbeats 8000000 in
set_option maxRecDepth 100000 in
theorem known_any (w : World) (hG : Gl w) (hE : GlE w) :
    Calls Tryd.prog 9 #[] w fun e w' => e = .returned (.bool true) ∧ Below w.heap.size w w' := by
  have hb0 := Below.refl w.heap.size w
  have c1 := kn_1 w w hG hb0
  have c2 := fun W (hb : Below w.heap.size w W) => kn_2 w W hG hb
  have HG := Lib.hid hG
  have HE := Lib.hid hE
  clear hG hE
  obtain ⟨iT, hT0, hT1, hT2, hT3⟩ := info_parts Tryd.infoTok
  obtain ⟨iB, hB0, hB1, hB2, hB3⟩ := info_parts Tryd.infoU8
  go_enter Tryd.func9, Tryd.ntmps9
  go_wp2_with (first | (go_at_call 13; (with_reducible refine c1.mono ?_); rintro e w1 ⟨g1, k1, rfl, hb1, q0, q1, q2, q3, q4, q5, q6, q7, q8⟩) | (go_at_call 13; (with_reducible refine (c2 _ hb1).mono ?_); clear c1 q0 q1 q2 q3 q4 q5 q6 q7 q8; rintro e w2 ⟨g2, k2, rfl, hb2, r0, r4⟩))
  have hb3 : Below w.heap.size w (((w2.alloc badT).alloc badP).alloc badW) := ((hb2.alloc hb2.size _).alloc (hb2.alloc hb2.size _).size _).alloc ((hb2.alloc hb2.size _).alloc (hb2.alloc hb2.size _).size _).size _
  have hrows := bad_rows w2
  have HB := Lib.hid hb2.size
  clear c2 r0 r4 hb1 hb2
  go_loopw [10] (fun v wx => ∃ k : Nat, v = .int .i64 k ∧ k ≤ 12 ∧ Below w.heap.size w wx ∧ BadRows w2.heap.size wx) (fun v _ => 12 - (intOf v).toNat)
  case atStart => exact ⟨0, rfl, by decide, hb3, hrows⟩
  case round =>
    clear hb3 hrows
    obtain ⟨k, rfl, hk, hb, hrow⟩ := hrel
    by_cases hlt : k < 12
    · obtain ⟨d, hd⟩ : ∃ d, badTexts[k]? = some d := ⟨badTexts[k]'hlt, List.getElem?_eq_getElem hlt⟩
      obtain ⟨k0, k1, k2⟩ := hrow k d hd
      have ht := bad_at k d hd
      obtain ⟨dt, dp, dw⟩ := d
      simp only at k0 k1 k2 ht
      have cT := tokens_fault ⟨dt.toArray⟩ (260, dp, dw) wr (HG.out.below hb) (by simpa using ht)
      simp only at cT
      have HR := Lib.hid hrow
      have HD := Lib.hid hd
      clear hrow hd ht
      go_wp2_with (first | (go_at_call 13; (with_reducible refine cT.mono ?_); rintro e w5 ⟨b, rfl, hb5, hc5⟩))
      have hr5 := HR.out.below hb5
      obtain ⟨_, j1, j2⟩ := hr5 k (dt, dp, dw) HD.out
      simp only at j1 j2
      have hbl : b < w5.heap.size := (Array.getElem?_eq_some_iff.1 hc5).1
      have hA : Below w5.heap.size w5 (w5.alloc (.cells #[.int .i64 260, .int .i64 dp, .string ⟨dw.toArray⟩] 46)) := (Below.refl _ _).alloc (Nat.le_refl _) _
      have hA2 := heap_alloc_new w5 (.cells #[.int .i64 260, .int .i64 dp, .string ⟨dw.toArray⟩] 46)
      have cD := told_hit 260 dp ⟨dw.toArray⟩ b w5.heap.size (w5.alloc (.cells #[.int .i64 260, .int .i64 dp, .string ⟨dw.toArray⟩] 46)).drew (HE.out.below (tr (tr hb hb5) hA.drew)) (by rw [heap_drew, Below.heap_alloc _ _ _ hbl]; exact hc5) (by rw [heap_drew]; exact hA2)
      have HA := Lib.hid hA
      have HR5 := Lib.hid hr5
      clear hc5 hr5 hA hA2 cT hb0 k0 k1 k2
      go_region_with (first | (go_at_call 17; (with_reducible refine cD.mono ?_); rintro e w6 ⟨rfl, hb6⟩))
      all_goals clear cD
      all_goals (
        go_wp2
        have hb56 := tr HA.out.drew hb6
        go_roundw
        case rel => exact ⟨k + 1, by go_num, by omega, tr (tr hb hb5) hb56, HR5.out.below hb56⟩
        case measure => simp [intOf]; omega)
    · clear hrow hk
      have cN1 := fun W (h : Below w.heap.size w W) => kn_n w W HG.out h ⟨#[97, 32, 98]⟩ (by decide) false known_names.1
      have cN2 := fun W (h : Below w.heap.size w W) => kn_n w W HG.out h ⟨#[120, 95, 49]⟩ (by decide) true known_names.2.1
      have cN3 := fun W (h : Below w.heap.size w W) => kn_n w W HG.out h ⟨#[]⟩ (by decide) false known_names.2.2.1
      have cN4 := fun W (h : Below w.heap.size w W) => kn_n w W HG.out h ⟨#[49]⟩ (by decide) false known_names.2.2.2.1
      have cN5 := fun W (h : Below w.heap.size w W) => kn_n w W HG.out h ⟨#[95]⟩ (by decide) true known_names.2.2.2.2.1
      have cN6 := fun W (h : Below w.heap.size w W) => kn_n w W HG.out h ⟨#[97, 255]⟩ (by decide) false known_names.2.2.2.2.2
      go_wp2_with (first | (go_at_call 10; (with_reducible refine (cN1 _ hb).mono ?_); clear cN1; rintro e v1 ⟨rfl, hv1⟩) | (go_at_call 10; (with_reducible refine (cN2 _ hv1).mono ?_); clear cN2; rintro e v2 ⟨rfl, hv2⟩) | (go_at_call 10; (with_reducible refine (cN3 _ hv2).mono ?_); clear cN3; rintro e v3 ⟨rfl, hv3⟩) | (go_at_call 10; (with_reducible refine (cN4 _ hv3).mono ?_); clear cN4; rintro e v4 ⟨rfl, hv4⟩) | (go_at_call 10; (with_reducible refine (cN5 _ hv4).mono ?_); clear cN5; rintro e v5 ⟨rfl, hv5⟩) | (go_at_call 10; (with_reducible refine (cN6 _ hv5).mono ?_); clear cN6; rintro e v6 ⟨rfl, hv6⟩; have cJ1 := kn_j1 w v6 HG.out hv6) | (go_at_call 18; (with_reducible refine cJ1.mono ?_); clear cJ1; rintro e v7 ⟨rfl, hv7⟩; have cJ2 := kn_j2 w v7 HG.out hv7) | (go_at_call 18; (with_reducible refine cJ2.mono ?_); clear cJ2; rintro e v8 ⟨rfl, hv8⟩) | (at_make; refine wpList_make_full _ rfl (.const (.int .i64 4097)) (.const (.int .i64 4097)) 24 rfl (w.heap.size) 30 iT (.agg #[.int .i64 0, .string ⟨#[]⟩, .int .i64 0]) 3 Tryd.underlying24 hT0 hT1 hT2 .i64 .i64 4097 4097 4097 rfl rfl rfl rfl (by rw [hT3]; decide) (by decide) hv8.size ?_; intro v9 hown9 hgrow9; clear hown9; have hv9 := Below.grown hv8 hgrow9 hv8.size (fun j hj => by cases hj); have cJ3 := kn_j3 w v9 hv9) | (go_at_call 18; (with_reducible refine (cJ3 _ _).mono ?_); clear cJ3; rintro e v10 ⟨rfl, hv10⟩) | (at_make; refine wpList_make_full _ rfl (.const (.int .i64 8193)) (.const (.int .i64 8193)) 47 rfl (w.heap.size) 5 iB (.int .u8 0) 1 Tryd.underlying47 hB0 hB1 hB2 .i64 .i64 8193 8193 8193 rfl rfl rfl rfl (by rw [hB3]; decide) (by decide) hv10.size ?_; intro v11 hown11 hgrow11; have hv11 := Below.grown hv10 hgrow11 hv10.size (fun j hj => by cases hj); have hex : ∃ xs, v11.ownsRow w.heap.size 5 1 (.slice (some ⟨v10.heap.size, 0, none⟩) 8193 8193) 8193 xs := ⟨_, hown11⟩; clear hown11))
      obtain ⟨xs0, hx0⟩ := hex
      obtain ⟨b, hbe⟩ : ∃ b, v10.heap.size = b := ⟨_, rfl⟩
      rw [hbe] at hx0 ⊢
      clear hgrow9 hgrow11 hv1 hv2 hv3 hv4 hv5 hv6 hv7 hv8 hv9 hv10 hT0 hT1 hT2 hT3
      go_loopw [22] (fun v wx => ∃ (m : Nat) (xs : List Value), v = .int .i64 m ∧ m ≤ 8193 ∧ Below w.heap.size w wx ∧ wx.ownsRow w.heap.size 5 1 (.slice (some ⟨b, 0, none⟩) 8193 8193) 8193 xs ∧ Hid (∀ j, j < m → xs[j]? = some (.int .u8 (if j % 2 = 0 then 97 else 32)))) (fun v _ => 8193 - (intOf v).toNat)
      case atStart => exact ⟨0, xs0, rfl, by decide, hv11, hx0, fun j hj => by omega⟩
      case round =>
        clear hx0 hv11
        obtain ⟨m, xs, rfl, hm, hbm, hox, hpat⟩ := hrel
        by_cases hlt2 : m < 8193
        · obtain ⟨g, cap, hg, hgl, _, hcell⟩ := own_some hox (by decide)
          cases hg
          have hxl : xs.length = 8193 * 1 := hox.1
          have k0 := (hcell m (by omega)).trans (List.getElem?_eq_getElem (by omega : m < xs.length))
          have f0 := hox.frozenAt m
          have HX := Lib.hid hox
          obtain ⟨y0, hy0⟩ : ∃ y0, xs[m]'(by omega) = y0 := ⟨_, rfl⟩
          rw [hy0] at k0
          clear hox hcell hy0
          have htm : Int.tmod (m : Int) 2 = ((m % 2 : Nat) : Int) := rfl
          have hset : ∀ v : Value, v = .int .u8 (if m % 2 = 0 then 97 else 32) → Hid (∀ j, j < m + 1 → (xs.set m v)[j]? = some (.int .u8 (if j % 2 = 0 then 97 else 32))) := fun v hv j hj => by
            by_cases hjm : j = m
            · subst hjm
              rw [List.getElem?_set_self (by omega), hv]
            · rw [List.getElem?_set_ne (by omega)]
              exact hpat j (by omega)
          rcases Nat.mod_two_eq_zero_or_one m with hp | hp
          · have X0 : Int.tmod (m : Int) 2 = 0 := by rw [htm, hp]; rfl
            have HS := Lib.hid (hset (.int .u8 97) (by rw [if_pos hp]))
            clear hset htm hpat
            go_wp2
            go_roundw
            case rel => exact ⟨m + 1, _, by go_num, by omega, hbm.setCell (p := ⟨b, m, none⟩) hgl _, (HX.out.stored m (.int .u8 97)).1, HS.out⟩
            case measure => simp [intOf]; omega
          · have X0 : Int.tmod (m : Int) 2 = 1 := by rw [htm, hp]; rfl
            have HS := Lib.hid (hset (.int .u8 32) (by rw [if_neg (by omega)]))
            clear hset htm hpat
            go_wp2
            go_roundw
            case rel => exact ⟨m + 1, _, by go_num, by omega, hbm.setCell (p := ⟨b, m, none⟩) hgl _, (HX.out.stored m (.int .u8 32)).1, HS.out⟩
            case measure => simp [intOf]; omega
        · obtain rfl : m = 8193 := by omega
          have hxl : xs.length = 8193 * 1 := hox.1
          obtain ⟨T, hT⟩ := allA
          have cv := fun W (hW : Below wr.heap.size wr W) => kn_conv T hT b xs hpat W (own_below hox hW)
          have HC := Lib.hid cv
          obtain ⟨cv1, cv2⟩ := cv wr (Below.refl _ _)
          clear hox hpat hxl cv
          have cT1 := kn_even T hT w wr HG.out hbm
          obtain ⟨T1, hT1⟩ : ∃ T1 : ByteArray, (⟨(T ++ []).toArray⟩ : ByteArray) = T1 := ⟨_, rfl⟩
          rw [hT1] at cv1 cT1
          clear cv2
          go_wp2_with (first | (go_at_call 13; (with_reducible refine cT1.mono ?_); rintro e v12 ⟨x12, k12, rfl, hb12⟩; obtain ⟨cv3, cv4⟩ := HC.out v12 hb12; clear cv3 cT1; have cT2 := kn_odd T hT w v12 HG.out (tr hbm hb12)) | (go_at_call 13; (with_reducible refine cT2.mono ?_); clear cT2; rintro e v13 ⟨b13, rfl, hb13, hc13⟩) | (at_make; refine wpList_make_full _ rfl (.const (.int .i64 65537)) (.const (.int .i64 65537)) 47 rfl (w.heap.size) 5 iB (.int .u8 0) 1 Tryd.underlying47 hB0 hB1 hB2 .i64 .i64 65537 65537 65537 rfl rfl rfl rfl (by rw [hB3]; decide) (by decide) (tr (tr hbm hb12) hb13).size ?_; intro v14 hown14 hgrow14; obtain ⟨S3, hS3, cv5⟩ := kn_zeros 65537 _ _ v14 hown14; have hb14 := Below.grown (Below.refl v13.heap.size v13) hgrow14 (Nat.le_refl _) (fun j hj => by cases hj); have hv14 := tr (tr (tr hbm hb12) hb13) hb14; have cT3 := kn_big w v14 HG.out hv14 S3 (by rw [hS3]; decide); clear hown14 hgrow14 hS3) | (go_at_call 13; (with_reducible refine cT3.mono ?_); clear cT3; rintro e v15 ⟨b15, rfl, hb15, hc15⟩; have cT4 := kn_3 w v15 HG.out (tr hv14 hb15)) | (go_at_call 13; (with_reducible refine cT4.mono ?_); clear cT4; rintro e v16 ⟨x16, k16, rfl, hb16⟩; have cD1 := kn_told 3 8192 3 8192 (by simp) (by simp) ⟨#[97]⟩ b13 w v16 HE.out (tr (tr hv14 hb15) hb16) (by have l13 : b13 < v13.heap.size := (Array.getElem?_eq_some_iff.1 hc13).1; rw [hb16.block b13 (by have := hb14.size; have := hb15.size; omega), hb15.block b13 (by have := hb14.size; omega), hb14.block b13 l13]; exact hc13)) | (go_at_call 17; (with_reducible refine cD1.mono ?_); clear cD1; rintro e v17 ⟨rfl, hb17⟩; have cD2 := kn_told 3 0 3 0 (by simp) (by simp) ⟨#[]⟩ b15 w v17 HE.out (tr (tr (tr hv14 hb15) hb16) hb17) (by have l15 : b15 < v15.heap.size := (Array.getElem?_eq_some_iff.1 hc15).1; rw [hb17.block b15 (by have := hb16.size; omega), hb16.block b15 l15]; exact hc15)) | (go_at_call 17; (with_reducible refine cD2.mono ?_); clear cD2; rintro e v18 ⟨rfl, hb18⟩; have hv18 := tr (tr (tr (tr hv14 hb15) hb16) hb17) hb18; have cK := wakes_any v18 (HG.out.below hv18) (HE.out.below hv18)) | (go_at_call 12; (with_reducible refine cK.mono ?_); clear cK; rintro e v19 ⟨rfl, hb19⟩))
          go_ret
          exact ⟨rfl, tr hv18 hb19⟩
end Go.Proofs.YtibnpbfggbbchaaDoor
