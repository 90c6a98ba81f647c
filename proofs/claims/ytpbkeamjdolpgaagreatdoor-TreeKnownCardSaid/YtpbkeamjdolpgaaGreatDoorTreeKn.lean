/- The walk of TreeKnown: the chapter's examples. -/
import Derived.Test.YtpbkeamjdolpgaaGreatDoorB26
import Derived.Laws.EntriesVeiled
namespace Go.Proofs.YtpbkeamjdolpgaaGreatDoor
open Go.RowKit Go.Lib Go.Shelf Go.Sort

def okP (s : List UInt8) : Bool := match parseR s with | .ok _ => true | .error _ => false
theorem okP_of {s : List UInt8} (h : okP s = true) : ∃ l, parseR s = .ok l := by
  unfold okP at h
  cases hp : parseR s with
  | ok l => exact ⟨l, rfl⟩
  | error f => rw [hp] at h; cases h
def okQ (s t : List UInt8) : Bool := match parseR s with | .ok l => decide (printR l = (t, 0)) | .error _ => false
theorem okQ_of {s t : List UInt8} (h : okQ s t = true) : ∃ l, parseR s = .ok l ∧ printR l = (t, 0) := by
  unfold okQ at h
  cases hp : parseR s with
  | ok l => rw [hp] at h; exact ⟨l, rfl, of_decide_eq_true h⟩
  | error f => rw [hp] at h; cases h
set_option maxHeartbeats 4000000 in
set_option maxRecDepth 100000 in
theorem told_err (s : List UInt8) (c p : Nat) (W T : List UInt8) (hc1 : c ≤ 1000000) (hp1 : p ≤ 1000000) (hlc : (Lib.itoa (c : Int)).length ≤ 1000) (hlp : (Lib.itoa (p : Int)).length ≤ 1000) (hlW : W.length ≤ 1000) (hp : parseR s = .error (c, (p : Int), W)) (ht : fltT (c, (p : Int), W) = T) (w : World) (hG : GlT w) :
    Calls Tryz.prog 32 #[.string ⟨s.toArray⟩] w fun e w' => e = .returned (.string ⟨T.toArray⟩) ∧ Below w.heap.size w w' := by
  have c0 := parse_any ⟨s.toArray⟩ w hG.1
  rw [show (⟨s.toArray⟩ : ByteArray).data.toList = s by simp, hp] at c0
  have C1 : Hid (∀ b w1, Below w.heap.size w w1 → w1.heap[b]? = some (.cells #[.int .i64 c, .int .i64 p, .string ⟨W.toArray⟩] 61 (0, 0)) → Calls Tryz.prog 33 #[.iface 23 (.pointer (some ⟨b, 0, none⟩))] w1 fun e w' => e = .returned (.string ⟨T.toArray⟩) ∧ Below w1.heap.size w1 w') := fun b w1 hb hf => by
    have := text_any c p W (by omega) (by omega) (by omega) (by omega) hlc hlp (by omega) b w1 (hG.below hb) hf
    rw [ht] at this
    exact this
  clear hp ht hG hlc hlp hlW hc1 hp1
  go_enter Tryz.func32, Tryz.ntmps32
  go_wp2_with fail
  refine c0.mono ?_
  clear c0
  rintro e w1 ⟨hb1, b, hb, rfl, hf⟩
  have c1 := C1.out b w1 hb1 hf
  have HB1 := Lib.hid hb1
  clear C1 hb hf hb1
  go_wp2_with fail
  refine c1.mono ?_
  clear c1
  rintro e w2 ⟨rfl, hb2⟩
  go_wp2_with fail
  go_ret
  exact ⟨rfl, tr HB1.out hb2⟩
set_option maxHeartbeats 4000000 in
set_option maxRecDepth 100000 in
theorem told_ok (s : List UInt8) (hp : ∃ l, parseR s = .ok l) (w : World) (hG : GlT w) :
    Calls Tryz.prog 32 #[.string ⟨s.toArray⟩] w fun e w' => e = .returned (.string ⟨#[79, 75]⟩) ∧ Below w.heap.size w w' := by
  obtain ⟨l, hp⟩ := hp
  have c0 := parse_any ⟨s.toArray⟩ w hG.1
  rw [show (⟨s.toArray⟩ : ByteArray).data.toList = s by simp, hp] at c0
  clear hp hG
  go_enter Tryz.func32, Tryz.ntmps32
  go_wp2_with fail
  refine c0.mono ?_
  clear c0
  rintro e w1 ⟨hb1, y, c, rfl, _, _⟩
  go_wp2_with fail
  go_ret
  exact ⟨rfl, hb1⟩
theorem kn_i270 : (Lib.itoa ((270 : Nat) : Int)).length ≤ 1000 := of_decide_eq_true (by kernel_rfl)
theorem kn_i3 : (Lib.itoa ((3 : Nat) : Int)).length ≤ 1000 := of_decide_eq_true (by kernel_rfl)
theorem kn0 : parseR [102, 40, 97, 32, 98, 41, 59] = .error (270, 4, [98]) := by kernel_rfl
theorem kt0 : fltT (270, 4, [98]) = [52, 58, 32, 101, 114, 114, 111, 114, 32, 50, 55, 48, 58, 32, 98] := by kernel_rfl
theorem ki0 : (Lib.itoa ((4 : Nat) : Int)).length ≤ 1000 := of_decide_eq_true (by kernel_rfl)
theorem kn1 : parseR [102, 40, 97, 44, 41, 59] = .error (270, 4, [41]) := by kernel_rfl
theorem kt1 : fltT (270, 4, [41]) = [52, 58, 32, 101, 114, 114, 111, 114, 32, 50, 55, 48, 58, 32, 41] := by kernel_rfl
theorem ki1 : (Lib.itoa ((4 : Nat) : Int)).length ≤ 1000 := of_decide_eq_true (by kernel_rfl)
theorem kn2 : parseR [97, 32, 60, 32, 98, 32, 60, 32, 99, 59] = .error (270, 2, [60]) := by kernel_rfl
theorem kt2 : fltT (270, 2, [60]) = [50, 58, 32, 101, 114, 114, 111, 114, 32, 50, 55, 48, 58, 32, 60] := by kernel_rfl
theorem ki2 : (Lib.itoa ((2 : Nat) : Int)).length ≤ 1000 := of_decide_eq_true (by kernel_rfl)
theorem kn3 : parseR [97, 32, 61, 32, 49, 32, 60, 32, 50, 32, 60, 32, 51, 59] = .error (270, 10, [60]) := by kernel_rfl
theorem kt3 : fltT (270, 10, [60]) = [49, 48, 58, 32, 101, 114, 114, 111, 114, 32, 50, 55, 48, 58, 32, 60] := by kernel_rfl
theorem ki3 : (Lib.itoa ((10 : Nat) : Int)).length ≤ 1000 := of_decide_eq_true (by kernel_rfl)
theorem kn4 : parseR [105, 102, 32, 61, 32, 49, 59] = .error (270, 3, [61]) := by kernel_rfl
theorem kt4 : fltT (270, 3, [61]) = [51, 58, 32, 101, 114, 114, 111, 114, 32, 50, 55, 48, 58, 32, 61] := by kernel_rfl
theorem ki4 : (Lib.itoa ((3 : Nat) : Int)).length ≤ 1000 := of_decide_eq_true (by kernel_rfl)
theorem kn5 : okP [97, 32, 61, 32, 40, 49, 32, 60, 32, 50, 41, 32, 60, 32, 51, 59] = true := by kernel_rfl
theorem kn6 : okP [] = true := by kernel_rfl
theorem kn7 : parseR [125] = .error (270, 0, [125]) := by kernel_rfl
theorem kt7 : fltT (270, 0, [125]) = [48, 58, 32, 101, 114, 114, 111, 114, 32, 50, 55, 48, 58, 32, 125] := by kernel_rfl
theorem ki7 : (Lib.itoa ((0 : Nat) : Int)).length ≤ 1000 := of_decide_eq_true (by kernel_rfl)
theorem kn8 : parseR [97, 32, 61, 32, 101, 108, 115, 101, 59] = .error (270, 4, [101, 108, 115, 101]) := by kernel_rfl
theorem kt8 : fltT (270, 4, [101, 108, 115, 101]) = [52, 58, 32, 101, 114, 114, 111, 114, 32, 50, 55, 48, 58, 32, 101, 108, 115, 101] := by kernel_rfl
theorem ki8 : (Lib.itoa ((4 : Nat) : Int)).length ≤ 1000 := of_decide_eq_true (by kernel_rfl)
theorem kn11 : parseR [97, 32, 61, 32, 49, 32, 50, 59] = .error (270, 6, [50]) := by kernel_rfl
theorem kt11 : fltT (270, 6, [50]) = [54, 58, 32, 101, 114, 114, 111, 114, 32, 50, 55, 48, 58, 32, 50] := by kernel_rfl
theorem ki11 : (Lib.itoa ((6 : Nat) : Int)).length ≤ 1000 := of_decide_eq_true (by kernel_rfl)
theorem kn9 : okP ([97, 32, 61, 32] ++ Lib.repeatL [45] 62 ++ [49, 59]) = true := by kernel_rfl
theorem kn10 : parseR ([97, 32, 61, 32, 45] ++ Lib.repeatL [45] 62 ++ [49, 59]) = .error (3, 67, [49]) := by kernel_rfl
theorem kt10 : fltT (3, 67, [49]) = [54, 55, 58, 32, 101, 114, 114, 111, 114, 32, 51, 58, 32, 49] := by kernel_rfl
theorem ki10 : (Lib.itoa ((67 : Nat) : Int)).length ≤ 1000 := of_decide_eq_true (by kernel_rfl)
def knA : List UInt8 := (([97, 32, 61, 32, 40, 49, 32, 45, 32, 40, 50, 32, 45, 32, 51, 41, 41, 91, 48, 93, 59, 32, 102, 40, 45, 45, 120, 32, 63, 32, 33, 121, 32].append [58, 32, 122, 91, 49, 93, 91, 50, 93, 44, 32, 91, 93, 41, 59, 32, 105, 102, 40, 97, 60, 98, 38, 38, 99, 124, 124, 100, 41, 123, 125, 101, 108]).append ([115, 101, 123, 103, 40, 41, 123, 104, 40, 41, 59, 125, 125, 32, 102, 117, 110, 99, 116, 105, 111, 110, 32, 113, 40, 120, 44, 121, 41, 61, 40, 120, 63].append [121, 58, 120, 41, 43, 49, 59, 32, 109, 111, 100, 117, 108, 101, 32, 109, 40, 41, 123, 125, 32, 102, 111, 114, 40, 105, 61, 91, 49, 93, 41, 123, 125]))
def knW : List UInt8 := (([97, 32, 61, 32, 40, 49, 32, 45, 32, 40, 50, 32, 45, 32, 51, 41, 41, 91, 48, 93, 59, 10, 102, 40, 45, 45, 120, 32, 63, 32, 33, 121, 32, 58, 32, 122, 91, 49, 93, 91, 50, 93, 44].append [32, 91, 93, 41, 59, 10, 105, 102, 32, 40, 97, 32, 60, 32, 98, 32, 38, 38, 32, 99, 32, 124, 124, 32, 100, 41, 32, 123, 10, 125, 32, 101, 108, 115, 101, 32, 123, 10, 32, 32, 103, 40, 41]).append ([32, 123, 10, 32, 32, 32, 32, 104, 40, 41, 59, 10, 32, 32, 125, 10, 125, 10, 102, 117, 110, 99, 116, 105, 111, 110, 32, 113, 40, 120, 44, 32, 121, 41, 32, 61, 32, 40, 120, 32, 63, 32, 121].append [32, 58, 32, 120, 41, 32, 43, 32, 49, 59, 10, 109, 111, 100, 117, 108, 101, 32, 109, 40, 41, 32, 123, 10, 125, 10, 102, 111, 114, 32, 40, 105, 32, 61, 32, 91, 49, 93, 41, 32, 123, 10, 125, 10]))
theorem kn_main : okQ knA knW = true := by kernel_rfl
theorem kn_c1 : checkR [.mk 1 [105, 102] [.mk 9 [49] [] 0] 0] = 290 := by kernel_rfl
theorem kn_c2 : checkR [.mk 1 [97] [.mk 12 [120] [.mk 9 [49] [] 0, .mk 9 [49] [] 0] 0] 0] = 290 := by kernel_rfl
end Go.Proofs.YtpbkeamjdolpgaaGreatDoor
