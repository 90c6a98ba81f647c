/- The walk of TreeKnown. -/
import Derived.Test.YtpbkeamjdolpgaaGreatDoorTreeKn
import Derived.Test.YtpbkeamjdolpgaaGreatDoorShelfI
namespace Go.Proofs.YtpbkeamjdolpgaaGreatDoor
open Go.RowKit Go.Lib Go.Shelf Go.Sort

theorem kn_check1 (B b1 : Nat) (W : World) (hG : Gl W) (h0 : W.heap[B]? = some (.cells #[.int .i64 1, .string ⟨#[105, 102]⟩, .slice (some ⟨b1, 0, none⟩) 1 1, .int .i64 0] 53 (0, 0))) (h1 : W.heap[b1]? = some (.cells #[.int .i64 9, .string ⟨#[49]⟩, .slice none 0 0, .int .i64 0] 53 (0, 0))) :
    Calls Tryz.prog 20 #[.slice (some ⟨B, 0, none⟩) 1 1] W fun e w' => e = .returned (.int .i64 290) ∧ Below W.heap.size W w' := by
  have f0 := Box4.facts h0
  have f1 := Box4.facts h1
  have c := check_any (fun _ => True) [.mk 1 [105, 102] [.mk 9 [49] [] 0] 0] (by simp [wtL, wtN_mk]) (some ⟨B, 0, none⟩) 1 W hG ⟨_, _, rfl, ⟨trivial, f0.1, f0.2.1, f0.2.2.2.1, some ⟨b1, 0, none⟩, 1, f0.2.2.1, ⟨_, _, rfl, ⟨trivial, f1.1, f1.2.1, f1.2.2.2.1, none, 0, f1.2.2.1, trivial⟩, trivial⟩⟩, trivial⟩
  rw [kn_c1] at c
  exact c
theorem kn_check2 (B b2 b1 : Nat) (W : World) (hG : Gl W) (h0 : W.heap[B]? = some (.cells #[.int .i64 1, .string ⟨#[97]⟩, .slice (some ⟨b2, 0, none⟩) 1 1, .int .i64 0] 53 (0, 0))) (h2 : W.heap[b2]? = some (.cells #[.int .i64 12, .string ⟨#[120]⟩, .slice (some ⟨b1, 0, none⟩) 2 2, .int .i64 0] 53 (0, 0)))
    (h1 : W.heap[b1]? = some (.cells #[.int .i64 9, .string ⟨#[49]⟩, .slice none 0 0, .int .i64 0, .int .i64 9, .string ⟨#[49]⟩, .slice none 0 0, .int .i64 0] 53 (0, 0))) :
    Calls Tryz.prog 20 #[.slice (some ⟨B, 0, none⟩) 1 1] W fun e w' => e = .returned (.int .i64 290) ∧ Below W.heap.size W w' := by
  have f0 := Box4.facts h0
  have f2 := Box4.facts h2
  have g : ∀ o v, #[Value.int .i64 9, .string ⟨#[49]⟩, .slice none 0 0, .int .i64 0, .int .i64 9, .string ⟨#[49]⟩, .slice none 0 0, .int .i64 0][o]? = some v → W.cell? ⟨b1, o, none⟩ = some v := fun o v h => by
    simp only [World.cell?, h1]
    exact h
  have c := check_any (fun _ => True) [.mk 1 [97] [.mk 12 [120] [.mk 9 [49] [] 0, .mk 9 [49] [] 0] 0] 0] (by simp [wtL, wtN_mk]) (some ⟨B, 0, none⟩) 1 W hG ⟨_, _, rfl, ⟨trivial, f0.1, f0.2.1, f0.2.2.2.1, some ⟨b2, 0, none⟩, 1, f0.2.2.1, ⟨_, _, rfl, ⟨trivial, f2.1, f2.2.1, f2.2.2.2.1, some ⟨b1, 0, none⟩, 2, f2.2.2.1,
    ⟨_, _, rfl, ⟨trivial, g 0 _ rfl, g 1 _ rfl, g 3 _ rfl, none, 0, g 2 _ rfl, trivial⟩, ⟨_, _, rfl, ⟨trivial, g 4 _ rfl, g 5 _ rfl, g 7 _ rfl, none, 0, g 6 _ rfl, trivial⟩, trivial⟩⟩⟩, trivial⟩⟩, trivial⟩
  rw [kn_c2] at c
  exact c
set_option maxHeartbeats 16000000 in
set_option maxRecDepth 100000 in
theorem treeKnown_any (w : World) (hG : GlT w) : Calls Tryz.prog 10 #[] w fun e w' => e = .returned (.bool true) ∧ Below w.heap.size w w' := by
  obtain ⟨L, hL, hP⟩ := okQ_of kn_main
  obtain ⟨hC, hw⟩ := parse_right hL
  have c0 := parse_any ⟨knA.toArray⟩ w hG.1
  rw [show (⟨knA.toArray⟩ : ByteArray).data.toList = knA by simp, hL] at c0
  have c1 := fun y c w1 (hb : Below w.heap.size w w1) => print_any (fun b => w.heap.size ≤ b) L (by omega) (fun h => by have := text_len L h; omega) y c w1 (hG.1.below hb)
  rw [hP] at c1
  have HG := Lib.hid hG
  have C1 := Lib.hid c1
  have eg := enters_of Tryz.func32 (by kernel_rfl) rfl
  obtain ⟨n, hn⟩ : ∃ n, L.length = n := ⟨_, rfl⟩
  unfold ParseEnd at c0
  rw [hn] at C1
  have HN := Lib.hid hn
  unfold knA at c0
  unfold knW at C1
  clear hL hP hC hw hG c1 hn
  go_enter Tryz.func10, Tryz.ntmps10
  go_wp2_with fail
  refine c0.mono ?_
  clear c0
  rintro e w1 ⟨hb1, y, c, rfl, hrow, _⟩
  have c1 := C1.out y c w1 hb1 hrow
  have HB1 := Lib.hid hb1
  rw [HN.out]
  clear hb1 hrow C1
  go_wp2_with fail
  refine c1.mono ?_
  clear c1
  rintro e w2 ⟨hb2, rfl⟩
  have HB2 := Lib.hid (tr HB1.out hb2)
  have c2 := Tryz.strings_Repeat ⟨#[45]⟩ 62 w2 (by decide) (by decide)
  rw [show (⟨#[45]⟩ : ByteArray).data.toList = [45] from rfl] at c2
  obtain ⟨D, hD⟩ : ∃ D, Lib.repeatL [45] 62 = D := ⟨_, rfl⟩
  rw [hD] at c2
  have HD := Lib.hid hD
  clear hb2 hD
  go_wp2_with fail
  refine c2.mono ?_
  clear c2
  rintro e w3 ⟨rfl, hb3⟩
  have HB3 := Lib.hid (tr HB2.out hb3)
  clear hb3
  -- STAGE2
  have HG3 := Lib.hid (HG.out.below HB3.out)
  obtain ⟨o1, ho1⟩ : ∃ o, o = Obj.cells #[.int .i64 9, .string ⟨#[49]⟩, .slice none 0 0, .int .i64 0] 53 := ⟨_, rfl⟩
  have hA1 : Below w3.heap.size w3 (((w3.alloc o1).alloc o1).alloc (.cells #[.int .i64 1, .string ⟨#[105, 102]⟩, .slice (some ⟨w3.heap.size + 1, 0, none⟩) 1 1, .int .i64 0] 53)) := (((Below.refl _ _).alloc (Nat.le_refl _) _).alloc (by simp) _).alloc (by simp; omega) _
  have k0 : (((w3.alloc o1).alloc o1).alloc (.cells #[.int .i64 1, .string ⟨#[105, 102]⟩, .slice (some ⟨w3.heap.size + 1, 0, none⟩) 1 1, .int .i64 0] 53)).heap[w3.heap.size + 1 + 1]? = some (.cells #[.int .i64 1, .string ⟨#[105, 102]⟩, .slice (some ⟨w3.heap.size + 1, 0, none⟩) 1 1, .int .i64 0] 53 (0, 0)) := by
    have h := heap_alloc_new ((w3.alloc o1).alloc o1) (.cells #[.int .i64 1, .string ⟨#[105, 102]⟩, .slice (some ⟨w3.heap.size + 1, 0, none⟩) 1 1, .int .i64 0] 53)
    rwa [World.size_alloc, World.size_alloc] at h
  have k1 : (((w3.alloc o1).alloc o1).alloc (.cells #[.int .i64 1, .string ⟨#[105, 102]⟩, .slice (some ⟨w3.heap.size + 1, 0, none⟩) 1 1, .int .i64 0] 53)).heap[w3.heap.size + 1]? = some o1 := by
    refine (Below.heap_alloc _ _ _ (by rw [World.size_alloc, World.size_alloc]; omega)).trans ?_
    have h := heap_alloc_new (w3.alloc o1) o1
    rwa [World.size_alloc] at h
  have k2 : (((w3.alloc o1).alloc o1).alloc (.cells #[.int .i64 1, .string ⟨#[105, 102]⟩, .slice (some ⟨w3.heap.size + 1, 0, none⟩) 1 1, .int .i64 0] 53)).heap[w3.heap.size]? = some o1 :=
    (Below.heap_alloc _ _ _ (by rw [World.size_alloc, World.size_alloc]; omega)).trans ((Below.heap_alloc _ _ _ (by rw [World.size_alloc]; omega)).trans (heap_alloc_new w3 o1))
  subst ho1
  have c3 := kn_check1 (w3.heap.size + 1 + 1) (w3.heap.size + 1) _ (HG3.out.1.below hA1) k0 k1
  have HK2 := Lib.hid k2
  have HA1 := Lib.hid hA1
  clear k0 k1 k2 hA1
  go_wp2_with fail
  refine c3.mono ?_
  clear c3
  rintro e w4 ⟨rfl, hb4⟩
  have HB4 := Lib.hid (tr HB3.out (HA1.out.trans (hb4.mono HA1.out.size)))
  have hbx : Box4 w4 w3.heap.size (.int .i64 9) (.string ⟨#[49]⟩) (.slice none 0 0) (.int .i64 0) := (hb4.block w3.heap.size (by simp; omega)).trans HK2.out
  obtain ⟨x0, x1, x2, x3, _⟩ := hbx.facts
  generalize w3.heap.size = bx at *
  clear hb4 HK2 hbx HA1
  have HG4 := Lib.hid (HG.out.below HB4.out)
  obtain ⟨p1, hp1⟩ : ∃ o, o = Obj.cells #[.int .i64 9, .string ⟨#[49]⟩, .slice none 0 0, .int .i64 0, .int .i64 9, .string ⟨#[49]⟩, .slice none 0 0, .int .i64 0] 53 := ⟨_, rfl⟩
  obtain ⟨p2, hp2⟩ : ∃ o, o = Obj.cells #[.int .i64 12, .string ⟨#[120]⟩, .slice (some ⟨w4.heap.size, 0, none⟩) 2 2, .int .i64 0] 53 := ⟨_, rfl⟩
  obtain ⟨p3, hp3⟩ : ∃ o, o = Obj.cells #[.int .i64 1, .string ⟨#[97]⟩, .slice (some ⟨w4.heap.size + 1, 0, none⟩) 1 1, .int .i64 0] 53 := ⟨_, rfl⟩
  have hA2 : Below w4.heap.size w4 (((w4.alloc p1).alloc p2).alloc p3) := (((Below.refl _ _).alloc (Nat.le_refl _) _).alloc (by simp) _).alloc (by simp; omega) _
  have k0 : (((w4.alloc p1).alloc p2).alloc p3).heap[w4.heap.size + 1 + 1]? = some p3 := by
    have h := heap_alloc_new ((w4.alloc p1).alloc p2) p3
    rwa [World.size_alloc, World.size_alloc] at h
  have k1 : (((w4.alloc p1).alloc p2).alloc p3).heap[w4.heap.size + 1]? = some p2 := by
    refine (Below.heap_alloc _ _ _ (by rw [World.size_alloc, World.size_alloc]; omega)).trans ?_
    have h := heap_alloc_new (w4.alloc p1) p2
    rwa [World.size_alloc] at h
  have k2 : (((w4.alloc p1).alloc p2).alloc p3).heap[w4.heap.size]? = some p1 :=
    (Below.heap_alloc _ _ _ (by rw [World.size_alloc, World.size_alloc]; omega)).trans ((Below.heap_alloc _ _ _ (by rw [World.size_alloc]; omega)).trans (heap_alloc_new w4 p1))
  subst hp1 hp2 hp3
  have c4 := kn_check2 (w4.heap.size + 1 + 1) (w4.heap.size + 1) w4.heap.size _ (HG4.out.1.below hA2) k0 k1 k2
  have HA2 := Lib.hid hA2
  clear k0 k1 k2 hA2
  go_wp2_with fail
  refine c4.mono ?_
  clear c4
  rintro e w5 ⟨rfl, hb5⟩
  have HB5 := Lib.hid (tr HB4.out (HA2.out.trans (hb5.mono HA2.out.size)))
  clear hb5 HA2 x0 x1 x2 x3
  have c0 := told_err [102, 40, 97, 32, 98, 41, 59] 270 4 [98] [52, 58, 32, 101, 114, 114, 111, 114, 32, 50, 55, 48, 58, 32, 98] (by omega) (by omega) kn_i270 ki0 (by decide) kn0 kt0 w5 (HG.out.below HB5.out)
  go_wp2_with fail
  refine c0.mono ?_
  clear c0
  rintro e w6 ⟨rfl, hb6⟩
  have HB6 := Lib.hid (tr HB5.out hb6)
  clear hb6
  have c1 := told_err [102, 40, 97, 44, 41, 59] 270 4 [41] [52, 58, 32, 101, 114, 114, 111, 114, 32, 50, 55, 48, 58, 32, 41] (by omega) (by omega) kn_i270 ki1 (by decide) kn1 kt1 w6 (HG.out.below HB6.out)
  go_wp2_with fail
  refine c1.mono ?_
  clear c1
  rintro e w7 ⟨rfl, hb7⟩
  have HB7 := Lib.hid (tr HB6.out hb7)
  clear hb7
  have c2 := told_err [97, 32, 60, 32, 98, 32, 60, 32, 99, 59] 270 2 [60] [50, 58, 32, 101, 114, 114, 111, 114, 32, 50, 55, 48, 58, 32, 60] (by omega) (by omega) kn_i270 ki2 (by decide) kn2 kt2 w7 (HG.out.below HB7.out)
  go_wp2_with fail
  refine c2.mono ?_
  clear c2
  rintro e w8 ⟨rfl, hb8⟩
  have HB8 := Lib.hid (tr HB7.out hb8)
  clear hb8
  have c3 := told_err [97, 32, 61, 32, 49, 32, 60, 32, 50, 32, 60, 32, 51, 59] 270 10 [60] [49, 48, 58, 32, 101, 114, 114, 111, 114, 32, 50, 55, 48, 58, 32, 60] (by omega) (by omega) kn_i270 ki3 (by decide) kn3 kt3 w8 (HG.out.below HB8.out)
  go_wp2_with fail
  refine c3.mono ?_
  clear c3
  rintro e w9 ⟨rfl, hb9⟩
  have HB9 := Lib.hid (tr HB8.out hb9)
  clear hb9
  have c4 := told_err [105, 102, 32, 61, 32, 49, 59] 270 3 [61] [51, 58, 32, 101, 114, 114, 111, 114, 32, 50, 55, 48, 58, 32, 61] (by omega) (by omega) kn_i270 ki4 (by decide) kn4 kt4 w9 (HG.out.below HB9.out)
  go_wp2_with fail
  refine c4.mono ?_
  clear c4
  rintro e w10 ⟨rfl, hb10⟩
  have HB10 := Lib.hid (tr HB9.out hb10)
  clear hb10
  have c5 := told_ok [97, 32, 61, 32, 40, 49, 32, 60, 32, 50, 41, 32, 60, 32, 51, 59] (okP_of kn5) w10 (HG.out.below HB10.out)
  go_wp2_with fail
  refine c5.mono ?_
  clear c5
  rintro e w11 ⟨rfl, hb11⟩
  have HB11 := Lib.hid (tr HB10.out hb11)
  clear hb11
  have c6 := told_ok [] (okP_of kn6) w11 (HG.out.below HB11.out)
  go_wp2_with fail
  refine c6.mono ?_
  clear c6
  rintro e w12 ⟨rfl, hb12⟩
  have HB12 := Lib.hid (tr HB11.out hb12)
  clear hb12
  have c7 := told_err [125] 270 0 [125] [48, 58, 32, 101, 114, 114, 111, 114, 32, 50, 55, 48, 58, 32, 125] (by omega) (by omega) kn_i270 ki7 (by decide) kn7 kt7 w12 (HG.out.below HB12.out)
  go_wp2_with fail
  refine c7.mono ?_
  clear c7
  rintro e w13 ⟨rfl, hb13⟩
  have HB13 := Lib.hid (tr HB12.out hb13)
  clear hb13
  have c8 := told_err [97, 32, 61, 32, 101, 108, 115, 101, 59] 270 4 [101, 108, 115, 101] [52, 58, 32, 101, 114, 114, 111, 114, 32, 50, 55, 48, 58, 32, 101, 108, 115, 101] (by omega) (by omega) kn_i270 ki8 (by decide) kn8 kt8 w13 (HG.out.below HB13.out)
  go_wp2_with fail
  refine c8.mono ?_
  clear c8
  rintro e w14 ⟨rfl, hb14⟩
  have HB14 := Lib.hid (tr HB13.out hb14)
  clear hb14
  have hDl : D.length = 62 := by rw [← HD.out]; kernel_rfl
  obtain ⟨E1, hE1⟩ : ∃ E, [97, 32, 61, 32] ++ D = E := ⟨_, rfl⟩
  obtain ⟨E2, hE2⟩ : ∃ E, E1 ++ [49, 59] = E := ⟨_, rfl⟩
  obtain ⟨E3, hE3⟩ : ∃ E, [97, 32, 61, 32, 45] ++ D = E := ⟨_, rfl⟩
  obtain ⟨E4, hE4⟩ : ∃ E, E3 ++ [49, 59] = E := ⟨_, rfl⟩
  have l1 : E1.length = 66 := by rw [← hE1]; simp [hDl]
  have l3 : E3.length = 67 := by rw [← hE3]; simp [hDl]
  have g1 : ∀ W, (Op.stringOp .add ⟨#[97, 32, 61, 32]⟩ ⟨D.toArray⟩).run Tryz.prog W = .ok (.string ⟨E1.toArray⟩) W := cat_run [97, 32, 61, 32] D _ hE1.symm (by simp [hDl])
  have g2 : ∀ W, (Op.stringOp .add ⟨E1.toArray⟩ ⟨#[49, 59]⟩).run Tryz.prog W = .ok (.string ⟨E2.toArray⟩) W := cat_run E1 [49, 59] _ hE2.symm (by simp [l1])
  have g3 : ∀ W, (Op.stringOp .add ⟨#[97, 32, 61, 32, 45]⟩ ⟨D.toArray⟩).run Tryz.prog W = .ok (.string ⟨E3.toArray⟩) W := cat_run [97, 32, 61, 32, 45] D _ hE3.symm (by simp [hDl])
  have g4 : ∀ W, (Op.stringOp .add ⟨E3.toArray⟩ ⟨#[49, 59]⟩).run Tryz.prog W = .ok (.string ⟨E4.toArray⟩) W := cat_run E3 [49, 59] _ hE4.symm (by simp [l3])
  have P9 : okP E2 = true := by rw [← hE2, ← hE1, ← HD.out]; exact kn9
  have P10 : parseR E4 = .error (3, 67, [49]) := by rw [← hE4, ← hE3, ← HD.out]; exact kn10
  have H9 := Lib.hid P9
  have H10 := Lib.hid P10
  clear hE1 hE2 hE3 hE4 l1 l3 hDl P9 P10
  have c9 := told_ok E2 (okP_of H9.out) w14 (HG.out.below HB14.out)
  go_wp2_with fail
  refine c9.mono ?_
  clear c9
  rintro e w15 ⟨rfl, hb15⟩
  have HB15 := Lib.hid (tr HB14.out hb15)
  clear hb15
  have c10 := told_err E4 3 67 [49] [54, 55, 58, 32, 101, 114, 114, 111, 114, 32, 51, 58, 32, 49] (by omega) (by omega) kn_i3 ki10 (by decide) H10.out kt10 w15 (HG.out.below HB15.out)
  go_wp2_with fail
  refine c10.mono ?_
  clear c10
  rintro e w16 ⟨rfl, hb16⟩
  have HB16 := Lib.hid (tr HB15.out hb16)
  clear hb16
  have c11 := told_err [97, 32, 61, 32, 49, 32, 50, 59] 270 6 [50] [54, 58, 32, 101, 114, 114, 111, 114, 32, 50, 55, 48, 58, 32, 50] (by omega) (by omega) kn_i270 ki11 (by decide) kn11 kt11 w16 (HG.out.below HB16.out)
  go_wp2_with fail
  refine c11.mono ?_
  clear c11
  rintro e w17 ⟨rfl, hb17⟩
  have HB17 := Lib.hid (tr HB16.out hb17)
  clear hb17
  have cw := works_any w17 (HG.out.below HB17.out)
  go_wp2_with fail
  refine cw.mono ?_
  clear cw
  rintro e w18 ⟨rfl, hb18⟩
  go_wp2_with fail
  go_ret
  exact ⟨rfl, tr HB17.out hb18⟩
end Go.Proofs.YtpbkeamjdolpgaaGreatDoor
