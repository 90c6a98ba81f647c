/- The walks of the reference's parameters and blocks. -/
import Derived.Test.YtpbkeamjdolpgaaGreatDoorTreeQi
namespace Go.Proofs.YtpbkeamjdolpgaaGreatDoor
open Go.RowKit Go.Lib Go.Shelf

theorem block_out {C : Ctx} {st : Nat → Res Nd} {acc : List Nd} {f p : Nat} {E b : Bool} (hne : Tot (blockL C.ts st f acc) b p ≠ .out) (hi : (!b && isT C.ts p [125]) = E) (hE : (!E && !b) = false) {b' : Bool} {p' a : Nat} (ht : Mt (Tot (takeP C.ts C.s.size [125]) b p) b' p' a) : Mt (Tot (blockL C.ts st f acc) b p) b' p' acc := by
  cases b
  · cases E
    · simp at hE
    · have h1 : isT C.ts p [125] = true := by simpa using hi
      rw [tot_go, takeP, if_pos h1] at ht
      rw [tot_go] at hne ⊢
      cases f with
      | zero => exact absurd rfl hne
      | succ f =>
        rw [blockL, if_pos h1]
        exact ⟨ht.1, ht.2.1, rfl⟩
  · exact ht
set_option maxHeartbeats 4000000 in
set_option maxRecDepth 100000 in
theorem rparams_any (C : Ctx) (f : Nat) (hf : f ≤ 8192) : ROne C 84 (paramsP C.ts C.s.size f) := by
  intro w b p h hne
  obtain ⟨R, hR⟩ : ∃ R, Tot (paramsP C.ts C.s.size f) b p = R := ⟨_, rfl⟩
  have HT : Hid (R = Tot (paramsP C.ts C.s.size f) b p) := hj hR.symm
  rw [hR] at hne
  have HR := hj hR
  have HNE := hj hne
  have HN753 : Hid (NSt C w w b p []) := NSt.start h
  clear hR hne h
  obtain ⟨i0, hi0, hz0, hz1, hz2⟩ := info_parts Tryz.infoNode
  go_enter Tryz.func84, Tryz.ntmps84
  go_upto_region 1 with (fail)
  have HN754 : Hid (NSt C w (World.alloc w (.cells #[.int .i64 0, .string ⟨#[]⟩, .slice none 0 0, .int .i64 0] 53)) b p [zB w.heap.size]) := hj (HN753.out.alloc _ _ _ _)
  clear HN753
  generalize World.alloc w (.cells #[.int .i64 0, .string ⟨#[]⟩, .slice none 0 0, .int .i64 0] 53) = W755 at HN754 ⊢
  have HLT0 : Hid (w.heap.size < W755.heap.size) := hj (HN754.out.lt _ (List.Mem.head _))
  go_upto_region 2 with (fail)
  have HN756 : Hid (NSt C w (World.alloc W755 (.cells #[.int .i64 4, .string ⟨#[]⟩, .slice none 0 0, .int .i64 0] 53)) b p [(W755.heap.size, .int .i64 4, .string ⟨#[]⟩, .slice none 0 0, .int .i64 0), zB w.heap.size]) := hj (HN754.out.alloc _ _ _ _)
  clear HN754
  generalize World.alloc W755 (.cells #[.int .i64 4, .string ⟨#[]⟩, .slice none 0 0, .int .i64 0] 53) = W757 at HN756 ⊢
  have HT0 : Hid (R = (Tot (takeP C.ts C.s.size [40]) b p).bind fun a q => (rowG C.ts C.s.size (nameN C.ts C.s.size) f [41] q).bind fun l r => .ok (.mk 4 [] l a) r) := by
    show R = _
    rw [HT.out, ← tot_bind]
    rfl
  clear HT
  have c758 := rtake_any C b p [40] W757 HN756.out.st
  obtain ⟨pl759, hpl759⟩ : ∃ pl, placeT C.ts C.s.size p = pl := ⟨_, rfl⟩
  rw [hpl759] at c758
  have Hpl759 := hj hpl759
  clear hpl759
  go_wp2_with fail
  (with_reducible refine c758.mono ?_)
  clear c758
  rintro e V766 ⟨b760, q761, a765, hM762, rfl, hs763, ho764⟩
  have hM762' := hM762.place
  rw [Hpl759.out] at hM762'
  clear hM762
  have HN767 : Hid (NSt C w V766 b760 q761 [(W755.heap.size, .int .i64 4, .string ⟨#[]⟩, .slice none 0 0, .int .i64 0), zB w.heap.size]) := hj (HN756.out.call hs763 ho764)
  clear HN756 ho764 hs763
  have HT1 : Hid (R = (Tot (rowG C.ts C.s.size (nameN C.ts C.s.size) f [41]) b760 q761).bind fun l r => .ok (.mk 4 [] l (pl759 : Int)) r) := by
    show R = _
    rw [HT0.out, hM762'.bind, ← tot_bind]
  clear hM762' HT0
  obtain ⟨n0, n1, n2, n3, nf⟩ : BoxF V766 (W755.heap.size) (.int .i64 4) (.string ⟨#[]⟩) (.slice none 0 0) (.int .i64 0) := HN767.out.at_ (List.Mem.head _)
  go_upto_region 3 with (fail)
  clear n0 n1 n2 n3 nf
  have HN768 : Hid (NSt C w (World.setCell V766 ⟨W755.heap.size, 3, none⟩ (.int .i64 pl759)) b760 q761 [(W755.heap.size, .int .i64 4, .string ⟨#[]⟩, .slice none 0 0, .int .i64 pl759), zB w.heap.size]) := hj (NSt.set3 (pre := []) HN767.out)
  clear HN767
  generalize World.setCell V766 ⟨W755.heap.size, 3, none⟩ (.int .i64 pl759) = W769 at HN768 ⊢
  have c770 := ris_any C b760 q761 [41] W769 HN768.out.st
  obtain ⟨E771, hE771⟩ : ∃ E, (!b760 && isT C.ts q761 [41]) = E := ⟨_, rfl⟩
  rw [hE771] at c770
  have HE771 := hj hE771
  clear hE771
  go_wp2_with fail
  (with_reducible refine c770.mono ?_)
  clear c770
  rintro e V773 ⟨rfl, hb772⟩
  have hb772s := HN768.out.st.below hb772
  have hb772o : Ow C.pb W769 V773 := Ow.of_below hb772
  clear hb772
  have HN774 : Hid (NSt C w V773 b760 q761 [(W755.heap.size, .int .i64 4, .string ⟨#[]⟩, .slice none 0 0, .int .i64 pl759), zB w.heap.size]) := hj (HN768.out.call hb772s hb772o)
  clear HN768 hb772o hb772s
  obtain ⟨R1, hR1⟩ : ∃ R1, Tot (rowG C.ts C.s.size (nameN C.ts C.s.size) f [41]) b760 q761 = R1 := ⟨_, rfl⟩
  have HN0 : Hid (R1 ≠ .out) := hj fun e => HNE.out (by rw [HT1.out, hR1, e]; rfl)
  have HRM : Hid (∀ b' p' l, Mt R1 b' p' l → Mt R b' p' (.mk 4 [] l (pl759 : Int))) := hj fun b' p' l hM => by
    rw [HT1.out, hR1, hM.bind]
    exact Mt.ret _ _ _
  have HL : Hid (R1 = loopR C.ts C.s.size (nameN C.ts C.s.size) [41] E771 b760 [] f q761) := by
    show R1 = _
    rw [← hR1, loop_in, HE771.out]
  have HE0 : Hid (E771 = true → b760 = false → isT C.ts q761 [41] = true) := hj fun h1 h2 => by
    have h3 := HE771.out
    rw [h1, h2] at h3
    simpa using h3
  clear HE771 hR1 HT1
  go_wp2_with fail
  have HLO : Hid (w.heap.size < W755.heap.size ∧ w.heap.size ≤ w.heap.size ∧ C.pb < w.heap.size) := by
    have h1 := HLT0.out
    exact ⟨h1, (HN774.out.bx _ (List.Mem.tail _ (List.Mem.head _))).1, HN774.out.pb⟩
  go_loopg [4] (f + 1) (fun g u wx => ∃ (acc : List Nd) (E b : Bool) (q f0 : Nat) (v : Value), u = .bool E ∧ RowOwn wx (W755.heap.size + 1) v acc ∧ NSt C w wx b q [(W755.heap.size, .int .i64 4, .string ⟨#[]⟩, v, .int .i64 pl759), zB w.heap.size] ∧ Hid (R1 = loopR C.ts C.s.size (nameN C.ts C.s.size) [41] E b acc f0 q) ∧ Hid (E = true → b = false → isT C.ts q [41] = true) ∧ acc.length + g ≤ f + 1 ∧ (b = true ∨ f0 + 1 ≤ g))
  case atStart => exact ⟨[], E771, b760, q761, f, _, rfl, RowOwn.nil _ _, HN774.out, HL, HE0, by simp, .inr (Nat.le_refl _)⟩
  case round =>
    clear HN774 HL HE0
    obtain ⟨acc, E, b9, q, f0, v, rfl, hrow, hN, hS, hE, hlen, hf0⟩ := hrel
    obtain ⟨va, vc, rfl, hca, -⟩ := hrow.shape
    have HNr := hj hN
    have HROW := hj hrow
    clear hN hrow
    cases E
    · cases b9
      · obtain ⟨c0, c1, c2, c3, -⟩ := HNr.out.st.cellsF
        have hf1 : f0 + 1 ≤ gk := hf0.resolve_left (by decide)
        clear hf0
        have hal : acc.length ≤ 8193 := by omega
        have c775 := rplace_any C false q wr HNr.out.st
        obtain ⟨pl776, hpl776⟩ : ∃ pl, placeT C.ts C.s.size q = pl := ⟨_, rfl⟩
        rw [hpl776] at c775
        have Hpl776 := hj hpl776
        clear hpl776
        go_wp2_with fail
        (with_reducible refine c775.mono ?_)
        clear c775
        rintro e V778 ⟨rfl, hb777⟩
        have hb777s := HNr.out.st.below hb777
        have hb777o : Ow C.pb wr V778 := Ow.of_below hb777
        clear hb777
        have HN779 : Hid (NSt C w V778 false q [(W755.heap.size, .int .i64 4, .string ⟨#[]⟩, .slice va acc.length vc, .int .i64 pl759), zB w.heap.size]) := hj (HNr.out.call hb777s hb777o)
        have HO780 : Hid (RowOwn V778 (W755.heap.size + 1) (.slice va acc.length vc) acc) := hj (HROW.out.ow hb777o (Nat.lt_succ_of_le (Nat.le_of_lt (Nat.lt_of_lt_of_le HNr.out.pb (show w.heap.size ≤ W755.heap.size from (HNr.out.bx _ (List.Mem.head _)).1)))))
        clear HROW
        clear HNr hb777o hb777s
        clear c0 c1 c2 c3
        have c781 := rnameq_any C false q V778 HN779.out.st
        go_wp2_with fail
        (with_reducible refine c781.mono ?_)
        clear c781
        rintro e V788 ⟨b782, q783, nm787, hM784, rfl, hs785, ho786⟩
        have HN789 : Hid (NSt C w V788 b782 q783 [(W755.heap.size, .int .i64 4, .string ⟨#[]⟩, .slice va acc.length vc, .int .i64 pl759), zB w.heap.size]) := hj (HN779.out.call hs785 ho786)
        have HO790 : Hid (RowOwn V788 (W755.heap.size + 1) (.slice va acc.length vc) acc) := hj (HO780.out.ow ho786 (Nat.lt_succ_of_le (Nat.le_of_lt (Nat.lt_of_lt_of_le HN779.out.pb (show w.heap.size ≤ W755.heap.size from (HN779.out.bx _ (List.Mem.head _)).1)))))
        clear HO780
        clear HN779 ho786 hs785
        have HMx : Hid (Mt (Tot (nameN C.ts C.s.size) false q) b782 q783 (Nd.mk 10 nm787 [] (pl776 : Int))) := by
          show Mt _ _ _ _
          rw [nameN_tot, hM784.bind, Hpl776.out]
          exact Mt.ret _ _ _
        clear hM784
        obtain ⟨n0, n1, n2, n3, nf⟩ : BoxF V788 (W755.heap.size) (.int .i64 4) (.string ⟨#[]⟩) (.slice va acc.length vc) (.int .i64 pl759) := HN789.out.at_ (List.Mem.head _)
        have hsz5 : W755.heap.size + 1 ≤ V788.heap.size := HN789.out.lt _ (List.Mem.head _)
        have hlo : ∀ x ∈ ([(W755.heap.size, .int .i64 4, .string ⟨#[]⟩, .slice va acc.length vc, .int .i64 pl759), zB w.heap.size] : List Bx), x.1 < (W755.heap.size + 1) := fun x hx => by have := HLO.out; simp only [List.mem_cons, List.not_mem_nil, or_false] at hx; rcases hx with rfl | rfl <;> (try dsimp only [zB]) <;> omega
        have HLOW := hj hlo
        clear hlo
        have HWB : Hid (w.heap.size ≤ (W755.heap.size + 1)) := hj (Nat.le_succ_of_le (show w.heap.size ≤ W755.heap.size from (HN789.out.bx _ (List.Mem.head _)).1))
        go_wp2_with (at_builtin; refine Hold.out ?_)
        refine Hold.put ?_
        obtain ⟨xs, hown, hfl⟩ := HO790.out
        have hlt := fun j hj => hown.lt j hj
        refine wpList_append_fresh _ rfl (.tmp 27) (.tmp 31) 22 rfl (W755.heap.size + 1) 53 i0 (.agg #[.int .i64 0, .string ⟨#[]⟩, .slice none 0 0, .int .i64 0]) 4 56 Tryz.underlying22 hi0 hz0 hz1 hz2 rfl (by decide) _ _ _ rfl (hown.alloc _) ⟨V788.heap.size, 0, none⟩ 1 1 [.int .i64 10, .string ⟨nm787.toArray⟩, .slice none 0 0, .int .i64 pl776] rfl rfl (cell_four_new _ _ _ _ _ _) (fun x hx => by simp at hx; rcases hx with rfl | rfl | rfl | rfl <;> rfl) (by unfold maxLen; omega) (by omega) (by simp; omega) ?_
        intro v' w6 hown' hgrow hfresh
        obtain ⟨va', vc', rfl, hN6, hR6⟩ := NSt.app (S := V788.heap.size) HN789.out HLOW.out HWB.out ((Below.refl _ _).alloc (Nat.le_refl _) _) hown hfl (show NdRow _ _ [] none from trivial) (fun j hj => (hlt j hj).2) (by omega) hown' hgrow hfresh
        obtain ⟨z0, z1, z2, z3, zf⟩ : BoxF w6 W755.heap.size (.int .i64 4) (.string ⟨#[]⟩) (.slice va acc.length vc) (.int .i64 pl759) := hN6.at_ (List.Mem.head _)
        have HN6 := hj hN6
        have HR6 := hj hR6
        clear hN6 hR6 hown hfl hlt hown' hgrow hfresh
        clear HO790 HN789
        clear n0 n1 n2 n3 nf
        go_upto_region 8 with (fail)
        have HR7 : Hid (RowOwn (World.setCell w6 ⟨W755.heap.size, 2, none⟩ (.slice va' (acc.length + 1) vc')) (W755.heap.size + 1) (.slice va' (acc.length + 1) vc') (acc ++ [(Nd.mk 10 nm787 [] (pl776 : Int))])) := hj (HR6.out.set (Nat.lt_succ_self _))
        clear HR6 z0 z1 z2 z3 zf
        have HN7 : Hid (NSt C w (World.setCell w6 ⟨W755.heap.size, 2, none⟩ (.slice va' (acc.length + 1) vc')) b782 q783 [(W755.heap.size, .int .i64 4, .string ⟨#[]⟩, .slice va' (acc.length + 1) vc', .int .i64 pl759), zB w.heap.size]) := hj (NSt.set2 (pre := []) HN6.out)
        clear HN6
        generalize World.setCell w6 ⟨W755.heap.size, 2, none⟩ (.slice va' (acc.length + 1) vc') = w7 at HN7 HR7 ⊢
        have HST := hj (loop_step (ts := C.ts) (L := C.s.size) (e := [41]) (acc := acc) (f := f0) (one := nameN C.ts C.s.size) (show Mt (nameN C.ts C.s.size q) b782 q783 _ from HMx.out) (by rw [← hS.out]; exact HN0.out))
        clear HMx
        have c791 := ris_any C b782 q783 [41] w7 HN7.out.st
        obtain ⟨E792, hE792⟩ : ∃ E, (!b782 && isT C.ts q783 [41]) = E := ⟨_, rfl⟩
        rw [hE792] at c791
        have HE792 := hj hE792
        clear hE792
        go_wp2_with fail
        (with_reducible refine c791.mono ?_)
        clear c791
        rintro e V794 ⟨rfl, hb793⟩
        have hb793s := HN7.out.st.below hb793
        have hb793o : Ow C.pb w7 V794 := Ow.of_below hb793
        clear hb793
        have HN795 : Hid (NSt C w V794 b782 q783 [(W755.heap.size, .int .i64 4, .string ⟨#[]⟩, .slice va' (acc.length + 1) vc', .int .i64 pl759), zB w.heap.size]) := hj (HN7.out.call hb793s hb793o)
        have HO796 : Hid (RowOwn V794 (W755.heap.size + 1) (.slice va' (acc.length + 1) vc') (acc ++ [(Nd.mk 10 nm787 [] (pl776 : Int))])) := hj (HR7.out.ow hb793o (Nat.lt_succ_of_le (Nat.le_of_lt (Nat.lt_of_lt_of_le HN7.out.pb (show w.heap.size ≤ W755.heap.size from (HN7.out.bx _ (List.Mem.head _)).1)))))
        clear HR7
        clear HN7 hb793o hb793s
        cases E792
        · have c797 := rtake_any C b782 q783 [44] V794 HN795.out.st
          obtain ⟨pl798, hpl798⟩ : ∃ pl, placeT C.ts C.s.size q783 = pl := ⟨_, rfl⟩
          rw [hpl798] at c797
          have Hpl798 := hj hpl798
          clear hpl798
          go_wp2_with fail
          (with_reducible refine c797.mono ?_)
          clear c797
          rintro e V805 ⟨b799, q800, a804, hM801, rfl, hs802, ho803⟩
          have hM801' := hM801.place
          rw [Hpl798.out] at hM801'
          clear hM801
          have HN806 : Hid (NSt C w V805 b799 q800 [(W755.heap.size, .int .i64 4, .string ⟨#[]⟩, .slice va' (acc.length + 1) vc', .int .i64 pl759), zB w.heap.size]) := hj (HN795.out.call hs802 ho803)
          have HO807 : Hid (RowOwn V805 (W755.heap.size + 1) (.slice va' (acc.length + 1) vc') (acc ++ [(Nd.mk 10 nm787 [] (pl776 : Int))])) := hj (HO796.out.ow ho803 (Nat.lt_succ_of_le (Nat.le_of_lt (Nat.lt_of_lt_of_le HN795.out.pb (show w.heap.size ≤ W755.heap.size from (HN795.out.bx _ (List.Mem.head _)).1)))))
          clear HO796
          clear HN795 ho803 hs802
          obtain ⟨g', hg', hR8⟩ := HST.out.2 HE792.out _ _ _ hM801'
          have HR8 := hj hR8
          have hf8 : b799 = true ∨ g' + 1 ≤ gk - 1 := hg'.imp id fun e => by omega
          have HF8 := hj hf8
          clear hg' hR8 hf8 hM801'
          go_wp2_with fail
          go_roundg (gk - 1)
          case measure => omega
          case rel => exact ⟨(acc ++ [(Nd.mk 10 nm787 [] (pl776 : Int))]), false, b799, q800, g', _, rfl, HO807.out, HN806.out, hj (hS.out.trans HR8.out), hj (fun e => nomatch e), by simp; omega, HF8.out⟩
        · go_wp2_with fail
          go_roundg (gk - 1)
          case measure => omega
          obtain ⟨g', hg', hR8⟩ := HST.out.1 HE792.out
          case rel => exact ⟨(acc ++ [(Nd.mk 10 nm787 [] (pl776 : Int))]), true, b782, q783, g', _, rfl, HO796.out, HN795.out, hj (hS.out.trans hR8), hj (fun _ h2 => by have h3 := HE792.out; rw [h2] at h3; simpa using h3), by simp; omega, .inr (by omega)⟩
      · obtain ⟨g0, c0, c1, c2, c3, -⟩ := HNr.out.st.cellsT
        have HLV : Hid (∀ b' p' a, Mt (Tot (takeP C.ts C.s.size [41]) true q) b' p' a → Mt R1 b' p' acc) := hj fun b' p' a ht => by
          rw [hS.out]
          exact loop_out (E := false) (by first | rfl | decide) hE.out ht
        clear hS hE hf0
        have c808 := rtake_any C true q [41] wr HNr.out.st
        obtain ⟨pl809, hpl809⟩ : ∃ pl, placeT C.ts C.s.size q = pl := ⟨_, rfl⟩
        rw [hpl809] at c808
        have Hpl809 := hj hpl809
        clear hpl809
        go_wp2_with fail
        (with_reducible refine c808.mono ?_)
        clear c808
        rintro e V816 ⟨b810, q811, a815, hM812, rfl, hs813, ho814⟩
        have hM812' := hM812.place
        rw [Hpl809.out] at hM812'
        clear hM812
        have HN817 : Hid (NSt C w V816 b810 q811 [(W755.heap.size, .int .i64 4, .string ⟨#[]⟩, .slice va acc.length vc, .int .i64 pl759), zB w.heap.size]) := hj (HNr.out.call hs813 ho814)
        have HO818 : Hid (RowOwn V816 (W755.heap.size + 1) (.slice va acc.length vc) acc) := hj (HROW.out.ow ho814 (Nat.lt_succ_of_le (Nat.le_of_lt (Nat.lt_of_lt_of_le HNr.out.pb (show w.heap.size ≤ W755.heap.size from (HNr.out.bx _ (List.Mem.head _)).1)))))
        clear HROW
        clear HNr ho814 hs813
        have HM : Hid (Mt R b810 q811 (.mk 4 [] acc (pl759 : Int))) := hj (HRM.out _ _ _ (HLV.out _ _ _ hM812'))
        clear hM812' HLV
        obtain ⟨va', vc', hv', hrw⟩ := HO818.out.rw (ads := [W755.heap.size, w.heap.size]) (fun a ha => by have := HLO.out; simp only [List.mem_cons, List.not_mem_nil, or_false] at ha; rcases ha with rfl | rfl <;> omega)
        simp only [Value.slice.injEq] at hv'
        obtain ⟨rfl, -, rfl⟩ := hv'
        have HK819 := hj hrw
        clear hrw HO818
        obtain ⟨n0, n1, n2, n3, nf⟩ : BoxF V816 (W755.heap.size) (.int .i64 4) (.string ⟨#[]⟩) (.slice va acc.length vc) (.int .i64 pl759) := HN817.out.at_ (List.Mem.head _)
        obtain ⟨r0, r1, r2, r3, rf⟩ : BoxF V816 (w.heap.size) (.int .i64 0) (.string ⟨#[]⟩) (.slice none 0 0) (.int .i64 0) := HN817.out.at_ (List.Mem.tail _ (List.Mem.head _))
        have HN820 : Hid (NSt C w (S4 V816 w.heap.size (.int .i64 4) (.string ⟨#[]⟩) (.slice va acc.length vc) (.int .i64 pl759)) b810 q811 [(W755.heap.size, .int .i64 4, .string ⟨#[]⟩, .slice va acc.length vc, .int .i64 pl759), (w.heap.size, .int .i64 4, .string ⟨#[]⟩, .slice va acc.length vc, .int .i64 pl759)]) := hj (NSt.set4 (pre := [(W755.heap.size, .int .i64 4, .string ⟨#[]⟩, .slice va acc.length vc, .int .i64 pl759)]) HN817.out)
        have HK821 : Hid (Rw (W755.heap.size + 1) (S4 V816 w.heap.size (.int .i64 4) (.string ⟨#[]⟩) (.slice va acc.length vc) (.int .i64 pl759)) [W755.heap.size, w.heap.size] acc va) := hj (HK819.out.set4 (List.Mem.tail _ (List.Mem.head _)))
        have HW : Hid (w.heap.size ≤ (W755.heap.size + 1)) := hj (Nat.le_succ_of_le (show w.heap.size ≤ W755.heap.size from (HN817.out.bx _ (List.Mem.head _)).1))
        have HF : Hid (RFinN C w (paramsP C.ts C.s.size f) b p (.returned (.agg #[.int .i64 4, .string ⟨#[]⟩, .slice va acc.length vc, .int .i64 pl759])) (S4 V816 w.heap.size (.int .i64 4) (.string ⟨#[]⟩) (.slice va acc.length vc) (.int .i64 pl759))) := hj (NSt.fin (n := []) (l := acc) HN820.out HW.out (by rw [HR.out]; exact HM.out) HK821.out)
        clear HN817 HN820 HW HM HK821 HK819
        go_wp2_with fail
        exact ret_node rfl rfl rfl (by simp [go_sem, r0]) (by simp [go_sem, r1]) (by simp [go_sem, r2]) (by simp [go_sem, r3]) HF.out
    · have HLV : Hid (∀ b' p' a, Mt (Tot (takeP C.ts C.s.size [41]) b9 q) b' p' a → Mt R1 b' p' acc) := hj fun b' p' a ht => by
        rw [hS.out]
        exact loop_out (E := true) (by first | rfl | decide) hE.out ht
      clear hS hE hf0
      have c822 := rtake_any C b9 q [41] wr HNr.out.st
      obtain ⟨pl823, hpl823⟩ : ∃ pl, placeT C.ts C.s.size q = pl := ⟨_, rfl⟩
      rw [hpl823] at c822
      have Hpl823 := hj hpl823
      clear hpl823
      go_wp2_with fail
      (with_reducible refine c822.mono ?_)
      clear c822
      rintro e V830 ⟨b824, q825, a829, hM826, rfl, hs827, ho828⟩
      have hM826' := hM826.place
      rw [Hpl823.out] at hM826'
      clear hM826
      have HN831 : Hid (NSt C w V830 b824 q825 [(W755.heap.size, .int .i64 4, .string ⟨#[]⟩, .slice va acc.length vc, .int .i64 pl759), zB w.heap.size]) := hj (HNr.out.call hs827 ho828)
      have HO832 : Hid (RowOwn V830 (W755.heap.size + 1) (.slice va acc.length vc) acc) := hj (HROW.out.ow ho828 (Nat.lt_succ_of_le (Nat.le_of_lt (Nat.lt_of_lt_of_le HNr.out.pb (show w.heap.size ≤ W755.heap.size from (HNr.out.bx _ (List.Mem.head _)).1)))))
      clear HROW
      clear HNr ho828 hs827
      have HM : Hid (Mt R b824 q825 (.mk 4 [] acc (pl759 : Int))) := hj (HRM.out _ _ _ (HLV.out _ _ _ hM826'))
      clear hM826' HLV
      obtain ⟨va', vc', hv', hrw⟩ := HO832.out.rw (ads := [W755.heap.size, w.heap.size]) (fun a ha => by have := HLO.out; simp only [List.mem_cons, List.not_mem_nil, or_false] at ha; rcases ha with rfl | rfl <;> omega)
      simp only [Value.slice.injEq] at hv'
      obtain ⟨rfl, -, rfl⟩ := hv'
      have HK833 := hj hrw
      clear hrw HO832
      obtain ⟨n0, n1, n2, n3, nf⟩ : BoxF V830 (W755.heap.size) (.int .i64 4) (.string ⟨#[]⟩) (.slice va acc.length vc) (.int .i64 pl759) := HN831.out.at_ (List.Mem.head _)
      obtain ⟨r0, r1, r2, r3, rf⟩ : BoxF V830 (w.heap.size) (.int .i64 0) (.string ⟨#[]⟩) (.slice none 0 0) (.int .i64 0) := HN831.out.at_ (List.Mem.tail _ (List.Mem.head _))
      have HN834 : Hid (NSt C w (S4 V830 w.heap.size (.int .i64 4) (.string ⟨#[]⟩) (.slice va acc.length vc) (.int .i64 pl759)) b824 q825 [(W755.heap.size, .int .i64 4, .string ⟨#[]⟩, .slice va acc.length vc, .int .i64 pl759), (w.heap.size, .int .i64 4, .string ⟨#[]⟩, .slice va acc.length vc, .int .i64 pl759)]) := hj (NSt.set4 (pre := [(W755.heap.size, .int .i64 4, .string ⟨#[]⟩, .slice va acc.length vc, .int .i64 pl759)]) HN831.out)
      have HK835 : Hid (Rw (W755.heap.size + 1) (S4 V830 w.heap.size (.int .i64 4) (.string ⟨#[]⟩) (.slice va acc.length vc) (.int .i64 pl759)) [W755.heap.size, w.heap.size] acc va) := hj (HK833.out.set4 (List.Mem.tail _ (List.Mem.head _)))
      have HW : Hid (w.heap.size ≤ (W755.heap.size + 1)) := hj (Nat.le_succ_of_le (show w.heap.size ≤ W755.heap.size from (HN831.out.bx _ (List.Mem.head _)).1))
      have HF : Hid (RFinN C w (paramsP C.ts C.s.size f) b p (.returned (.agg #[.int .i64 4, .string ⟨#[]⟩, .slice va acc.length vc, .int .i64 pl759])) (S4 V830 w.heap.size (.int .i64 4) (.string ⟨#[]⟩) (.slice va acc.length vc) (.int .i64 pl759))) := hj (NSt.fin (n := []) (l := acc) HN834.out HW.out (by rw [HR.out]; exact HM.out) HK835.out)
      clear HN831 HN834 HW HM HK835 HK833
      go_wp2_with fail
      exact ret_node rfl rfl rfl (by simp [go_sem, r0]) (by simp [go_sem, r1]) (by simp [go_sem, r2]) (by simp [go_sem, r3]) HF.out
set_option maxHeartbeats 4000000 in
set_option maxRecDepth 100000 in
theorem rblock_any (C : Ctx) (st : Nat → Res Nd) (hx : ROneQ C 45 st) (f : Nat) (hf : f ≤ 8192) : ROne C 85 (blockO C.ts C.s.size st f) := by
  intro w b p h hne
  obtain ⟨R, hR⟩ : ∃ R, Tot (blockO C.ts C.s.size st f) b p = R := ⟨_, rfl⟩
  have HT : Hid (R = Tot (blockO C.ts C.s.size st f) b p) := hj hR.symm
  rw [hR] at hne
  have HR := hj hR
  have HNE := hj hne
  have HHX := hj hx
  have HN836 : Hid (NSt C w w b p []) := NSt.start h
  clear hR hne h hx
  obtain ⟨i0, hi0, hz0, hz1, hz2⟩ := info_parts Tryz.infoNode
  go_enter Tryz.func85, Tryz.ntmps85
  go_upto_region 1 with (fail)
  have HN837 : Hid (NSt C w (World.alloc w (.cells #[.int .i64 0, .string ⟨#[]⟩, .slice none 0 0, .int .i64 0] 53)) b p [zB w.heap.size]) := hj (HN836.out.alloc _ _ _ _)
  clear HN836
  generalize World.alloc w (.cells #[.int .i64 0, .string ⟨#[]⟩, .slice none 0 0, .int .i64 0] 53) = W838 at HN837 ⊢
  have HLT0 : Hid (w.heap.size < W838.heap.size) := hj (HN837.out.lt _ (List.Mem.head _))
  go_upto_region 2 with (fail)
  have HN839 : Hid (NSt C w (World.alloc W838 (.cells #[.int .i64 0, .string ⟨#[]⟩, .slice none 0 0, .int .i64 0] 53)) b p [zB W838.heap.size, zB w.heap.size]) := hj (HN837.out.alloc _ _ _ _)
  clear HN837
  generalize World.alloc W838 (.cells #[.int .i64 0, .string ⟨#[]⟩, .slice none 0 0, .int .i64 0] 53) = W840 at HN839 ⊢
  have HT0 : Hid (R = (Tot (takeP C.ts C.s.size [123]) b p).bind fun a q => (blockL C.ts st f [] q).bind fun l r => .ok (.mk 0 [] l a) r) := by
    show R = _
    rw [HT.out, ← tot_bind]
    rfl
  clear HT
  have c841 := rtake_any C b p [123] W840 HN839.out.st
  obtain ⟨pl842, hpl842⟩ : ∃ pl, placeT C.ts C.s.size p = pl := ⟨_, rfl⟩
  rw [hpl842] at c841
  have Hpl842 := hj hpl842
  clear hpl842
  go_wp2_with fail
  (with_reducible refine c841.mono ?_)
  clear c841
  rintro e V849 ⟨b843, q844, a848, hM845, rfl, hs846, ho847⟩
  have hM845' := hM845.place
  rw [Hpl842.out] at hM845'
  clear hM845
  have HN850 : Hid (NSt C w V849 b843 q844 [zB W838.heap.size, zB w.heap.size]) := hj (HN839.out.call hs846 ho847)
  clear HN839 ho847 hs846
  have HT1 : Hid (R = (Tot (blockL C.ts st f []) b843 q844).bind fun l r => .ok (.mk 0 [] l (pl842 : Int)) r) := by
    show R = _
    rw [HT0.out, hM845'.bind, ← tot_bind]
  clear hM845' HT0
  obtain ⟨n0, n1, n2, n3, nf⟩ : BoxF V849 (W838.heap.size) (.int .i64 0) (.string ⟨#[]⟩) (.slice none 0 0) (.int .i64 0) := HN850.out.at_ (List.Mem.head _)
  go_upto_region 3 with (fail)
  clear n0 n1 n2 n3 nf
  have HN851 : Hid (NSt C w (World.setCell V849 ⟨W838.heap.size, 3, none⟩ (.int .i64 pl842)) b843 q844 [(W838.heap.size, .int .i64 0, .string ⟨#[]⟩, .slice none 0 0, .int .i64 pl842), zB w.heap.size]) := hj (NSt.set3 (pre := []) HN850.out)
  clear HN850
  generalize World.setCell V849 ⟨W838.heap.size, 3, none⟩ (.int .i64 pl842) = W852 at HN851 ⊢
  have c853 := ris_any C b843 q844 [125] W852 HN851.out.st
  obtain ⟨E854, hE854⟩ : ∃ E, (!b843 && isT C.ts q844 [125]) = E := ⟨_, rfl⟩
  rw [hE854] at c853
  have HE854 := hj hE854
  clear hE854
  go_wp2_with fail
  (with_reducible refine c853.mono ?_)
  clear c853
  rintro e V856 ⟨rfl, hb855⟩
  have hb855s := HN851.out.st.below hb855
  have hb855o : Ow C.pb W852 V856 := Ow.of_below hb855
  clear hb855
  have HN857 : Hid (NSt C w V856 b843 q844 [(W838.heap.size, .int .i64 0, .string ⟨#[]⟩, .slice none 0 0, .int .i64 pl842), zB w.heap.size]) := hj (HN851.out.call hb855s hb855o)
  clear HN851 hb855o hb855s
  obtain ⟨R1, hR1⟩ : ∃ R1, Tot (blockL C.ts st f []) b843 q844 = R1 := ⟨_, rfl⟩
  have HN0 : Hid (R1 ≠ .out) := hj fun e => HNE.out (by rw [HT1.out, hR1, e]; rfl)
  have HRM : Hid (∀ b' p' l, Mt R1 b' p' l → Mt R b' p' (.mk 0 [] l (pl842 : Int))) := hj fun b' p' l hM => by
    rw [HT1.out, hR1, hM.bind]
    exact Mt.ret _ _ _
  have HL : Hid (R1 = Tot (blockL C.ts st f []) b843 q844) := hR1.symm
  have HE0 : Hid ((!b843 && isT C.ts q844 [125]) = E854) := HE854
  clear HE854 hR1 HT1
  go_wp2_with fail
  have HLO : Hid (w.heap.size < W838.heap.size ∧ w.heap.size ≤ w.heap.size ∧ C.pb < w.heap.size) := by
    have h1 := HLT0.out
    exact ⟨h1, (HN857.out.bx _ (List.Mem.tail _ (List.Mem.head _))).1, HN857.out.pb⟩
  go_loopg [4] f (fun g u wx => ∃ (acc : List Nd) (E b : Bool) (q f0 : Nat) (v : Value), u = .bool E ∧ RowOwn wx (W838.heap.size + 1) v acc ∧ NSt C w wx b q [(W838.heap.size, .int .i64 0, .string ⟨#[]⟩, v, .int .i64 pl842), zB w.heap.size] ∧ Hid (R1 = Tot (blockL C.ts st f0 acc) b q) ∧ Hid ((!b && isT C.ts q [125]) = E) ∧ acc.length + g ≤ f ∧ f0 ≤ g)
  case atStart => exact ⟨[], E854, b843, q844, f, _, rfl, RowOwn.nil _ _, HN857.out, HL, HE0, by simp, Nat.le_refl _⟩
  case round =>
    clear HN857 HL HE0
    obtain ⟨acc, E, b9, q, f0, v, rfl, hrow, hN, hS, hE, hlen, hf0⟩ := hrel
    obtain ⟨va, vc, rfl, hca, -⟩ := hrow.shape
    have HNr := hj hN
    have HROW := hj hrow
    clear hN hrow
    cases E
    · cases b9
      · obtain ⟨c0, c1, c2, c3, -⟩ := HNr.out.st.cellsF
        obtain ⟨f1, rfl⟩ : ∃ f1, f0 = f1 + 1 := by
          cases f0 with
          | zero => exact absurd hS.out HN0.out
          | succ f1 => exact ⟨f1, rfl⟩
        have hal : acc.length ≤ 8192 := by omega
        have hni : isT C.ts q [125] = false := by have := hE.out; simpa using this
        have HS1 : Hid (R1 = (Tot st false q).bind fun x r => blockL C.ts st f1 (acc ++ [x]) r) := by
          show R1 = _
          rw [hS.out, tot_go, blockL, if_neg (by rw [hni]; decide)]
          rfl
        clear hni
        have HLTr : Hid (∀ j, (Value.slice va acc.length vc).ownBlock = some j → j < wr.heap.size) := by
          obtain ⟨xs0, h1, _⟩ := HROW.out
          exact fun j hj => (h1.lt j hj).2
        have hszr : W838.heap.size + 1 ≤ wr.heap.size := HNr.out.lt _ (List.Mem.head _)
        have c858 := HHX.out _ _ _ HNr.out.st (fun e => HN0.out (by rw [HS1.out, e]; rfl)) ⟨_, fun e => HN0.out (by rw [HS1.out, tot_go, e]; rfl)⟩
        unfold RFinN at c858
        go_wp2_with fail
        (with_reducible refine c858.mono ?_)
        clear c858
        rintro e V859 ⟨b5, q5, k, n, kids, pp, y, c, hMx, rfl, hk5, hs5, ho5⟩
        clear c0 c1 c2 c3
        have HMx := hj hMx
        have HK5 := hj hk5
        clear hMx hk5
        have HN860 : Hid (NSt C w V859 b5 q5 [(W838.heap.size, .int .i64 0, .string ⟨#[]⟩, .slice va acc.length vc, .int .i64 pl842), zB w.heap.size]) := hj (HNr.out.call hs5 ho5)
        have HO861 : Hid (RowOwn V859 (W838.heap.size + 1) (.slice va acc.length vc) acc) := hj (HROW.out.ow ho5 (Nat.lt_succ_of_le (Nat.le_of_lt (Nat.lt_of_lt_of_le HNr.out.pb (show w.heap.size ≤ W838.heap.size from (HNr.out.bx _ (List.Mem.head _)).1)))))
        clear HROW
        clear HNr ho5 hs5
        obtain ⟨n0, n1, n2, n3, nf⟩ : BoxF V859 (W838.heap.size) (.int .i64 0) (.string ⟨#[]⟩) (.slice va acc.length vc) (.int .i64 pl842) := HN860.out.at_ (List.Mem.head _)
        have na0 := fun o => al_cell n0 o
        have na1 := fun o => al_cell n1 o
        have na2 := fun o => al_cell n2 o
        have na3 := fun o => al_cell n3 o
        have naf : ∀ ob o, (World.alloc V859 ob).frozen? ⟨W838.heap.size, o, none⟩ = false := fun ob o => ((HN860.out.bx _ (List.Mem.head _)).2.alloc ob).facts.2.2.2.2 o
        have hsz5 : W838.heap.size + 1 ≤ V859.heap.size := HN860.out.lt _ (List.Mem.head _)
        have hlo : ∀ x ∈ ([(W838.heap.size, .int .i64 0, .string ⟨#[]⟩, .slice va acc.length vc, .int .i64 pl842), zB w.heap.size] : List Bx), x.1 < (W838.heap.size + 1) := fun x hx => by have := HLO.out; simp only [List.mem_cons, List.not_mem_nil, or_false] at hx; rcases hx with rfl | rfl <;> (try dsimp only [zB]) <;> omega
        have HLOW := hj hlo
        clear hlo
        have HWB : Hid (w.heap.size ≤ (W838.heap.size + 1)) := hj (Nat.le_succ_of_le (show w.heap.size ≤ W838.heap.size from (HN860.out.bx _ (List.Mem.head _)).1))
        go_wp2_with (at_builtin; refine Hold.out ?_)
        refine Hold.put ?_
        obtain ⟨xs, hown, hfl⟩ := HO861.out
        have hlt := fun j hj => hown.lt j hj
        refine wpList_append_fresh _ rfl (.tmp 24) (.tmp 26) 22 rfl (W838.heap.size + 1) 53 i0 (.agg #[.int .i64 0, .string ⟨#[]⟩, .slice none 0 0, .int .i64 0]) 4 56 Tryz.underlying22 hi0 hz0 hz1 hz2 rfl (by decide) _ _ _ rfl ((hown.alloc _).alloc _) ⟨V859.heap.size + 1, 0, none⟩ 1 1 [.int .i64 k, .string ⟨n.toArray⟩, .slice y kids.length c, .int .i64 pp] rfl rfl (by rw [show (V859.heap.size + 1) = (V859.alloc (.cells #[.int .i64 k, .string ⟨n.toArray⟩, .slice y kids.length c, .int .i64 pp] 53)).heap.size by simp]; exact cell_four_new _ _ _ _ _ _) (fun x hx => by simp at hx; rcases hx with rfl | rfl | rfl | rfl <;> rfl) (by unfold maxLen; omega) (by omega) (by simp; omega) ?_
        intro v' w6 hown' hgrow hfresh
        obtain ⟨va', vc', rfl, hN6, hR6⟩ := NSt.app (S := wr.heap.size) HN860.out HLOW.out HWB.out (((Below.refl _ _).alloc (Nat.le_refl _) _).alloc (by simp) _) hown hfl HK5.out HLTr.out (by omega) hown' hgrow hfresh
        obtain ⟨z0, z1, z2, z3, zf⟩ : BoxF w6 W838.heap.size (.int .i64 0) (.string ⟨#[]⟩) (.slice va acc.length vc) (.int .i64 pl842) := hN6.at_ (List.Mem.head _)
        have HN6 := hj hN6
        have HR6 := hj hR6
        clear hN6 hR6 hown hfl hlt hown' hgrow hfresh
        clear HO861 HN860
        clear n0 n1 n2 n3 nf
        clear na0 na1 na2 na3 naf
        go_upto_region 7 with (fail)
        have HR7 : Hid (RowOwn (World.setCell w6 ⟨W838.heap.size, 2, none⟩ (.slice va' (acc.length + 1) vc')) (W838.heap.size + 1) (.slice va' (acc.length + 1) vc') (acc ++ [(Nd.mk k n kids pp)])) := hj (HR6.out.set (Nat.lt_succ_self _))
        clear HR6 z0 z1 z2 z3 zf
        have HN7 : Hid (NSt C w (World.setCell w6 ⟨W838.heap.size, 2, none⟩ (.slice va' (acc.length + 1) vc')) b5 q5 [(W838.heap.size, .int .i64 0, .string ⟨#[]⟩, .slice va' (acc.length + 1) vc', .int .i64 pl842), zB w.heap.size]) := hj (NSt.set2 (pre := []) HN6.out)
        clear HN6
        generalize World.setCell w6 ⟨W838.heap.size, 2, none⟩ (.slice va' (acc.length + 1) vc') = w7 at HN7 HR7 ⊢
        have HS2 : Hid (R1 = Tot (blockL C.ts st f1 (acc ++ [(Nd.mk k n kids pp)])) b5 q5) := by
          show R1 = _
          rw [HS1.out, HMx.out.bind]
        clear HMx HS1
        have c862 := ris_any C b5 q5 [125] w7 HN7.out.st
        obtain ⟨E863, hE863⟩ : ∃ E, (!b5 && isT C.ts q5 [125]) = E := ⟨_, rfl⟩
        rw [hE863] at c862
        have HE863 := hj hE863
        clear hE863
        go_wp2_with fail
        (with_reducible refine c862.mono ?_)
        clear c862
        rintro e V865 ⟨rfl, hb864⟩
        have hb864s := HN7.out.st.below hb864
        have hb864o : Ow C.pb w7 V865 := Ow.of_below hb864
        clear hb864
        have HN866 : Hid (NSt C w V865 b5 q5 [(W838.heap.size, .int .i64 0, .string ⟨#[]⟩, .slice va' (acc.length + 1) vc', .int .i64 pl842), zB w.heap.size]) := hj (HN7.out.call hb864s hb864o)
        have HO867 : Hid (RowOwn V865 (W838.heap.size + 1) (.slice va' (acc.length + 1) vc') (acc ++ [(Nd.mk k n kids pp)])) := hj (HR7.out.ow hb864o (Nat.lt_succ_of_le (Nat.le_of_lt (Nat.lt_of_lt_of_le HN7.out.pb (show w.heap.size ≤ W838.heap.size from (HN7.out.bx _ (List.Mem.head _)).1)))))
        clear HR7
        clear HN7 hb864o hb864s
        go_wp2_with fail
        go_roundg (gk - 1)
        case measure => omega
        case rel => exact ⟨(acc ++ [(Nd.mk k n kids pp)]), E863, b5, q5, f1, _, rfl, HO867.out, HN866.out, HS2, HE863, by simp; omega, by omega⟩
      · obtain ⟨g0, c0, c1, c2, c3, -⟩ := HNr.out.st.cellsT
        have HLV : Hid (∀ b' p' a, Mt (Tot (takeP C.ts C.s.size [125]) true q) b' p' a → Mt R1 b' p' acc) := hj fun b' p' a ht => by
          rw [hS.out]
          exact block_out (E := false) (by rw [← hS.out]; exact HN0.out) hE.out (by first | rfl | decide) ht
        clear hS hE hf0
        have c868 := rtake_any C true q [125] wr HNr.out.st
        obtain ⟨pl869, hpl869⟩ : ∃ pl, placeT C.ts C.s.size q = pl := ⟨_, rfl⟩
        rw [hpl869] at c868
        have Hpl869 := hj hpl869
        clear hpl869
        go_wp2_with fail
        (with_reducible refine c868.mono ?_)
        clear c868
        rintro e V876 ⟨b870, q871, a875, hM872, rfl, hs873, ho874⟩
        have hM872' := hM872.place
        rw [Hpl869.out] at hM872'
        clear hM872
        have HN877 : Hid (NSt C w V876 b870 q871 [(W838.heap.size, .int .i64 0, .string ⟨#[]⟩, .slice va acc.length vc, .int .i64 pl842), zB w.heap.size]) := hj (HNr.out.call hs873 ho874)
        have HO878 : Hid (RowOwn V876 (W838.heap.size + 1) (.slice va acc.length vc) acc) := hj (HROW.out.ow ho874 (Nat.lt_succ_of_le (Nat.le_of_lt (Nat.lt_of_lt_of_le HNr.out.pb (show w.heap.size ≤ W838.heap.size from (HNr.out.bx _ (List.Mem.head _)).1)))))
        clear HROW
        clear HNr ho874 hs873
        have HM : Hid (Mt R b870 q871 (.mk 0 [] acc (pl842 : Int))) := hj (HRM.out _ _ _ (HLV.out _ _ _ hM872'))
        clear hM872' HLV
        obtain ⟨va', vc', hv', hrw⟩ := HO878.out.rw (ads := [W838.heap.size, w.heap.size]) (fun a ha => by have := HLO.out; simp only [List.mem_cons, List.not_mem_nil, or_false] at ha; rcases ha with rfl | rfl <;> omega)
        simp only [Value.slice.injEq] at hv'
        obtain ⟨rfl, -, rfl⟩ := hv'
        have HK879 := hj hrw
        clear hrw HO878
        obtain ⟨n0, n1, n2, n3, nf⟩ : BoxF V876 (W838.heap.size) (.int .i64 0) (.string ⟨#[]⟩) (.slice va acc.length vc) (.int .i64 pl842) := HN877.out.at_ (List.Mem.head _)
        obtain ⟨r0, r1, r2, r3, rf⟩ : BoxF V876 (w.heap.size) (.int .i64 0) (.string ⟨#[]⟩) (.slice none 0 0) (.int .i64 0) := HN877.out.at_ (List.Mem.tail _ (List.Mem.head _))
        have HN880 : Hid (NSt C w (S4 V876 w.heap.size (.int .i64 0) (.string ⟨#[]⟩) (.slice va acc.length vc) (.int .i64 pl842)) b870 q871 [(W838.heap.size, .int .i64 0, .string ⟨#[]⟩, .slice va acc.length vc, .int .i64 pl842), (w.heap.size, .int .i64 0, .string ⟨#[]⟩, .slice va acc.length vc, .int .i64 pl842)]) := hj (NSt.set4 (pre := [(W838.heap.size, .int .i64 0, .string ⟨#[]⟩, .slice va acc.length vc, .int .i64 pl842)]) HN877.out)
        have HK881 : Hid (Rw (W838.heap.size + 1) (S4 V876 w.heap.size (.int .i64 0) (.string ⟨#[]⟩) (.slice va acc.length vc) (.int .i64 pl842)) [W838.heap.size, w.heap.size] acc va) := hj (HK879.out.set4 (List.Mem.tail _ (List.Mem.head _)))
        have HW : Hid (w.heap.size ≤ (W838.heap.size + 1)) := hj (Nat.le_succ_of_le (show w.heap.size ≤ W838.heap.size from (HN877.out.bx _ (List.Mem.head _)).1))
        have HF : Hid (RFinN C w (blockO C.ts C.s.size st f) b p (.returned (.agg #[.int .i64 0, .string ⟨#[]⟩, .slice va acc.length vc, .int .i64 pl842])) (S4 V876 w.heap.size (.int .i64 0) (.string ⟨#[]⟩) (.slice va acc.length vc) (.int .i64 pl842))) := hj (NSt.fin (n := []) (l := acc) HN880.out HW.out (by rw [HR.out]; exact HM.out) HK881.out)
        clear HN877 HN880 HW HM HK881 HK879
        go_wp2_with fail
        exact ret_node rfl rfl rfl (by simp [go_sem, r0]) (by simp [go_sem, r1]) (by simp [go_sem, r2]) (by simp [go_sem, r3]) HF.out
    · have HLV : Hid (∀ b' p' a, Mt (Tot (takeP C.ts C.s.size [125]) b9 q) b' p' a → Mt R1 b' p' acc) := hj fun b' p' a ht => by
        rw [hS.out]
        exact block_out (E := true) (by rw [← hS.out]; exact HN0.out) hE.out (by first | rfl | decide) ht
      clear hS hE hf0
      have c882 := rtake_any C b9 q [125] wr HNr.out.st
      obtain ⟨pl883, hpl883⟩ : ∃ pl, placeT C.ts C.s.size q = pl := ⟨_, rfl⟩
      rw [hpl883] at c882
      have Hpl883 := hj hpl883
      clear hpl883
      go_wp2_with fail
      (with_reducible refine c882.mono ?_)
      clear c882
      rintro e V890 ⟨b884, q885, a889, hM886, rfl, hs887, ho888⟩
      have hM886' := hM886.place
      rw [Hpl883.out] at hM886'
      clear hM886
      have HN891 : Hid (NSt C w V890 b884 q885 [(W838.heap.size, .int .i64 0, .string ⟨#[]⟩, .slice va acc.length vc, .int .i64 pl842), zB w.heap.size]) := hj (HNr.out.call hs887 ho888)
      have HO892 : Hid (RowOwn V890 (W838.heap.size + 1) (.slice va acc.length vc) acc) := hj (HROW.out.ow ho888 (Nat.lt_succ_of_le (Nat.le_of_lt (Nat.lt_of_lt_of_le HNr.out.pb (show w.heap.size ≤ W838.heap.size from (HNr.out.bx _ (List.Mem.head _)).1)))))
      clear HROW
      clear HNr ho888 hs887
      have HM : Hid (Mt R b884 q885 (.mk 0 [] acc (pl842 : Int))) := hj (HRM.out _ _ _ (HLV.out _ _ _ hM886'))
      clear hM886' HLV
      obtain ⟨va', vc', hv', hrw⟩ := HO892.out.rw (ads := [W838.heap.size, w.heap.size]) (fun a ha => by have := HLO.out; simp only [List.mem_cons, List.not_mem_nil, or_false] at ha; rcases ha with rfl | rfl <;> omega)
      simp only [Value.slice.injEq] at hv'
      obtain ⟨rfl, -, rfl⟩ := hv'
      have HK893 := hj hrw
      clear hrw HO892
      obtain ⟨n0, n1, n2, n3, nf⟩ : BoxF V890 (W838.heap.size) (.int .i64 0) (.string ⟨#[]⟩) (.slice va acc.length vc) (.int .i64 pl842) := HN891.out.at_ (List.Mem.head _)
      obtain ⟨r0, r1, r2, r3, rf⟩ : BoxF V890 (w.heap.size) (.int .i64 0) (.string ⟨#[]⟩) (.slice none 0 0) (.int .i64 0) := HN891.out.at_ (List.Mem.tail _ (List.Mem.head _))
      have HN894 : Hid (NSt C w (S4 V890 w.heap.size (.int .i64 0) (.string ⟨#[]⟩) (.slice va acc.length vc) (.int .i64 pl842)) b884 q885 [(W838.heap.size, .int .i64 0, .string ⟨#[]⟩, .slice va acc.length vc, .int .i64 pl842), (w.heap.size, .int .i64 0, .string ⟨#[]⟩, .slice va acc.length vc, .int .i64 pl842)]) := hj (NSt.set4 (pre := [(W838.heap.size, .int .i64 0, .string ⟨#[]⟩, .slice va acc.length vc, .int .i64 pl842)]) HN891.out)
      have HK895 : Hid (Rw (W838.heap.size + 1) (S4 V890 w.heap.size (.int .i64 0) (.string ⟨#[]⟩) (.slice va acc.length vc) (.int .i64 pl842)) [W838.heap.size, w.heap.size] acc va) := hj (HK893.out.set4 (List.Mem.tail _ (List.Mem.head _)))
      have HW : Hid (w.heap.size ≤ (W838.heap.size + 1)) := hj (Nat.le_succ_of_le (show w.heap.size ≤ W838.heap.size from (HN891.out.bx _ (List.Mem.head _)).1))
      have HF : Hid (RFinN C w (blockO C.ts C.s.size st f) b p (.returned (.agg #[.int .i64 0, .string ⟨#[]⟩, .slice va acc.length vc, .int .i64 pl842])) (S4 V890 w.heap.size (.int .i64 0) (.string ⟨#[]⟩) (.slice va acc.length vc) (.int .i64 pl842))) := hj (NSt.fin (n := []) (l := acc) HN894.out HW.out (by rw [HR.out]; exact HM.out) HK895.out)
      clear HN891 HN894 HW HM HK895 HK893
      go_wp2_with fail
      exact ret_node rfl rfl rfl (by simp [go_sem, r0]) (by simp [go_sem, r1]) (by simp [go_sem, r2]) (by simp [go_sem, r3]) HF.out
end Go.Proofs.YtpbkeamjdolpgaaGreatDoor
