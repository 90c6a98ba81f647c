/- The walks of lexer.run and of the two closures that it is called with. -/
import Derived.Test.YtibnpbfggbbchaaDoorLexA
import Derived.Test.YtibnpbfggbbchaaDoorShelf
import Derived.WalkKit
import Derived.WalkSpells
import Derived.WalkLawsBesides
import Derived.Deep.LoopGhost
import Derived.Lib.OthersKept
import Derived.Lib.Hide
import Derived.BigQuiet
import Derived.Deep.QuietTactic
import Derived.Outline
namespace Go.Proofs.YtibnpbfggbbchaaDoor
open Go.RowKit Go.Lib

theorem ret_i64 {a b : Int} (h : a = b) : Ending.returned (.int .i64 a) = .returned (.int .i64 b) := by rw [h]
/-- What is known of the listed variables. -/
def Gl (w : World) : Prop :=
  Lib.TabIs Tryd.prog w "unicode.properties" .u8 Lib.propertiesTab ∧ RVar 2 letterT w ∧ RVar 3 digitT w ∧ Lib.Utf8Tabs 4 5 w
theorem Gl.below {w w' : World} (h : Gl w) (hb : Below w.heap.size w w') : Gl w' :=
  ⟨TabIs_below (g := 1) (by kernel_rfl) h.1 hb, RVar_below h.2.1 hb, RVar_below h.2.2.1 hb, Utf8Tabs_below h.2.2.2 hb⟩

/-- What run asks of its function. -/
def RunFn (g : Nat) (p : Nat → Nat → Bool) (n : Nat) (w : World) : Prop :=
  ∀ (W : World) (i x : Nat), i ≤ n → x ≤ 1114111 → Below w.heap.size w W → Calls Tryd.prog g #[.int .i64 i, .int .i32 x] W fun e w' => e = .returned (.bool (p i x)) ∧ Below W.heap.size W w'

set_option maxHeartbeats 2000000 in
set_option maxRecDepth 1000000 in
theorem run_any (g : Nat) (eg : ∀ args w, (callFunc g args).run Tryd.prog w = .ok (.enter g args) w) (p : Nat → Nat → Bool) (s : ByteArray) (w : World) (hs : s.size ≤ maxLen) (hp : RunFn g p s.size w) :
    Calls Tryd.prog 31 #[.string s, .func (.func g) #[] #[]] w fun e w' => e = .returned (.int .i64 (runL p s.size 0 s.data.toList)) ∧ Below w.heap.size w w' := by
  unfold maxLen at hs
  go_enter Tryd.func31, Tryd.ntmps31
  go_wp2
  go_loopg [] s.size (fun gf wx => ∃ pos : Nat, wx.heap[w.heap.size]? = some (.stringIter s pos) ∧ Below w.heap.size w wx ∧ Hid (pos + runL p gf pos (s.data.toList.drop pos) = runL p s.size 0 s.data.toList) ∧ pos ≤ s.size ∧ s.size ≤ pos + gf)
  case atStart => exact ⟨0, World.iter_heap w s 0, (Below.refl _ w).alloc (Nat.le_refl _) _, Lib.hid (by simp), by omega, by omega⟩
  case round =>
    obtain ⟨pos, hit, hbw, hleft, hpl, hfu⟩ := hrel
    by_cases hps : pos < s.size
    · obtain ⟨g', rfl⟩ : ∃ g', gk = g' + 1 := ⟨gk - 1, by omega⟩
      have hnx : ∀ ty, (Instr.next (.pointer (some ⟨w.heap.size, 0, none⟩)) true ty).run Tryd.prog wr = _ := fun ty => Lib.run_next_any_at wr w.heap.size s pos ty hit hps
      rw [decode_dec] at hnx
      obtain ⟨l, hl⟩ : ∃ l, s.data.toList.drop pos = l := ⟨_, rfl⟩
      have hln : l.length = s.size - pos := by rw [← hl, List.length_drop, ← Lib.size_eq]
      have hlne : l ≠ [] := by intro e; rw [e] at hln; simp at hln; omega
      have hk1 := dec_ge1 l
      have hk2 := dec_le l hlne
      have hr := dec_rune l
      have hpre : Lib.hasPrefix (s.extract pos s.size).data.toList [239, 191, 189] = Lib.hasPrefix l [239, 191, 189] := by rw [Lib.extract_to_end, hl]
      have herr := err_prefix l
      have hbad : ¬ (dec l).1 = 65533 → badL l = false := fun h => by unfold badL; simp [h]
      have hdrop : ∀ K, s.data.toList.drop (pos + K) = l.drop K := fun K => by rw [← hl, List.drop_drop]
      have hrun : runL p (g' + 1) pos l = if badL l then 0 else if p pos (dec l).1 then (dec l).2 + runL p g' (pos + (dec l).2) (l.drop (dec l).2) else 0 := by
        rw [runL, if_neg hlne]
      rw [hl, hrun] at hleft
      rw [hl] at hnx
      obtain ⟨R, hR⟩ : ∃ R, (dec l).1 = R := ⟨_, rfl⟩
      obtain ⟨K, hK⟩ : ∃ K, (dec l).2 = K := ⟨_, rfl⟩
      rw [hR, hK] at hleft
      rw [hR, hK] at hnx
      rw [hK] at hk1 hk2
      rw [hR] at hr herr hbad
      rw [← hdrop] at hleft
      have hit2 := Lib.iterAt_heap wr w.heap.size s pos (pos + K) hit
      have hbw2 := Lib.below_iterAt hbw (k := w.heap.size) (Nat.le_refl _) s (pos + K)
      obtain ⟨W, hWd⟩ : ∃ W, wr.iterAt w.heap.size s (pos + K) = W := ⟨_, rfl⟩
      rw [hWd] at hnx hit2 hbw2
      have hltW : w.heap.size < W.heap.size := (Array.getElem?_eq_some_iff.1 hit2).1
      have cS := hp W pos R hpl hr hbw2
      have cH := Tryd.strings_HasPrefix (s.extract pos s.size) ⟨#[239, 191, 189]⟩ W
      rw [hpre] at cH
      clear hp hpre hrun hK hWd hit hbw hlne
      by_cases h3 : R = 65533
      · have H3 : ((R : Int) == 65533) = true := by simp [h3]
        rw [herr h3] at cH
        clear herr hbad h3 hR
        cases hb : badL l <;> rw [hb] at cH hleft <;> simp only [Bool.not_false, Bool.not_true, if_true, Bool.false_eq_true, if_false] at cH hleft
        · cases hsp : p pos R <;> rw [hsp] at cS hleft <;> simp only [if_true, Bool.false_eq_true, if_false] at hleft
          · have HL := hleft
            clear hleft hdrop hl hsp hb
            go_wp2_with (first | (go_at_call 37; refine cH.mono ?_; rintro e W' ⟨rfl, rfl⟩) | (go_at_fn g; refine cS.mono ?_; rintro e W' ⟨rfl, hbc⟩))
            go_ret
            exact ⟨ret_i64 (by rw [← HL.out]; rfl), (hbw2.trans (hbc.mono hbw2.size))⟩
          · have HL := hleft
            clear hleft hdrop hl hsp hb
            go_wp2_with (first | (go_at_call 37; refine cH.mono ?_; rintro e W' ⟨rfl, rfl⟩) | (go_at_fn g; refine cS.mono ?_; rintro e W' ⟨rfl, hbc⟩))
            go_roundg g'
            case measure => omega
            case rel => exact ⟨pos + K, (hbc.block _ hltW).trans hit2, (hbw2.trans (hbc.mono hbw2.size)), Lib.hid (by rw [← HL.out]; omega), by omega, by omega⟩
        · have HL := hleft
          clear hleft hdrop hl hb cS
          go_wp2_with (first | (go_at_call 37; refine cH.mono ?_; rintro e W' ⟨rfl, rfl⟩))
          go_ret
          exact ⟨ret_i64 (by rw [← HL.out]; rfl), hbw2⟩
      · have H3 : ((R : Int) == 65533) = false := by simp; omega
        have hb := hbad h3
        clear herr hbad h3 hR cH
        rw [hb] at hleft
        simp only [Bool.false_eq_true, if_false] at hleft
        cases hsp : p pos R <;> rw [hsp] at cS hleft <;> simp only [if_true, Bool.false_eq_true, if_false] at hleft
        · have HL := hleft
          clear hleft hdrop hl hsp hb
          go_wp2_with (first | (go_at_fn g; refine cS.mono ?_; rintro e W' ⟨rfl, hbc⟩))
          go_ret
          exact ⟨ret_i64 (by rw [← HL.out]; rfl), (hbw2.trans (hbc.mono hbw2.size))⟩
        · have HL := hleft
          clear hleft hdrop hl hsp hb
          go_wp2_with (first | (go_at_fn g; refine cS.mono ?_; rintro e W' ⟨rfl, hbc⟩))
          go_roundg g'
          case measure => omega
          case rel => exact ⟨pos + K, (hbc.block _ hltW).trans hit2, (hbw2.trans (hbc.mono hbw2.size)), Lib.hid (by rw [← HL.out]; omega), by omega, by omega⟩
    · have hnx : ∀ ty, (Instr.next (.pointer (some ⟨w.heap.size, 0, none⟩)) true ty).run Tryd.prog wr = _ := fun ty => Lib.run_next_end_at wr w.heap.size s pos ty hit hps
      have hnil : s.data.toList.drop pos = [] := by rw [List.drop_eq_nil_iff, ← Lib.size_eq]; omega
      have hps2 : pos = s.size := by omega
      have hL := hleft.out
      rw [hnil, runL_nil] at hL
      have HL := Lib.hid hL
      clear hL hleft hnil hp
      go_wp2
      go_ret
      exact ⟨ret_i64 (by rw [← HL.out, hps2]; rfl), hbw⟩
end Go.Proofs.YtibnpbfggbbchaaDoor
