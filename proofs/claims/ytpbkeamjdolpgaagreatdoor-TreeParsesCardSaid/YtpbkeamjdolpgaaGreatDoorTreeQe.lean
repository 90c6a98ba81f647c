/- The walk of the reference's list. -/
import Derived.Test.YtpbkeamjdolpgaaGreatDoorTreeQd
namespace Go.Proofs.YtpbkeamjdolpgaaGreatDoor
open Go.RowKit Go.Lib Go.Shelf

set_option maxHeartbeats 4000000 in
set_option maxRecDepth 100000 in
theorem rlist_any (C : Ctx) (ex : Nat → Res Nd) (hx : ROneQ C 87 ex) (f : Nat) (hf : f ≤ 8192) (s : List UInt8) (b : Bool) (p : Nat) (w : World) (h : RSt C w b p) (hne : Tot (rowG C.ts C.s.size ex f s) b p ≠ .out) :
    Calls Tryz.prog 144 #[.pointer (some ⟨C.pb, 0, none⟩), .string ⟨s.toArray⟩] w (RFinR C w (rowG C.ts C.s.size ex f s) b p) := by
  have hL := loop_in C.ts C.s.size ex s b f p
  unfold RFinR
  obtain ⟨R, hR⟩ : ∃ R, Tot (rowG C.ts C.s.size ex f s) b p = R := ⟨_, rfl⟩
  rw [hR] at hL hne ⊢
  have c0 := ris_any C b p s w h
  have hEi : (!b && isT C.ts p s) = true → b = false → isT C.ts p s = true := by
    intro h1 _
    simp only [Bool.and_eq_true] at h1
    exact h1.2
  obtain ⟨E, hE⟩ : ∃ E, (!b && isT C.ts p s) = E := ⟨_, rfl⟩
  rw [hE] at hL c0 hEi
  have H0 := Lib.hid h
  have HN := Lib.hid hne
  have HL := Lib.hid hL
  have HE := Lib.hid hEi
  have hpb := h.lt
  have HX0 := Lib.hid h.xlt
  clear hR hL hne hEi h hE
  go_enter Tryz.func144, Tryz.ntmps144
  go_wp2_with fail
  refine c0.mono ?_
  clear c0
  rintro e1 w1 ⟨rfl, hb1⟩
  have HB1 := Lib.hid hb1
  clear hb1
  go_wp2_with fail
  go_loopg [5, 6] (f + 1) (fun g v u wx => ∃ (acc : List Nd) (E b : Bool) (q f0 : Nat), u = .bool E ∧ RowOwn wx w.heap.size v acc ∧ RSt C wx b q ∧ Ow C.pb w wx ∧ Hid (R = loopR C.ts C.s.size ex s E b acc f0 q) ∧ Hid (E = true → b = false → isT C.ts q s = true) ∧ acc.length + g ≤ f + 1 ∧ (b = true ∨ f0 + 1 ≤ g))
  case atStart => exact ⟨[], E, b, p, f, rfl, RowOwn.nil _ _, H0.out.below HB1.out, Ow.of_below HB1.out, HL.out, HE.out, by simp, .inr (Nat.le_refl _)⟩
  case round =>
    clear HB1 HL HE
    obtain ⟨acc, E, b, q, f0, rfl, hrow, hs, ho, hS, hE, hlen, hf0⟩ := hrel
    obtain ⟨va, vc, rfl, hca, _⟩ := hrow.shape
    have hexit : (!E && !b) = false → Hid (Calls Tryz.prog 86 #[.pointer (some ⟨C.pb, 0, none⟩), .string ⟨s.toArray⟩] wr fun e w' => ∃ b' p', Mt R b' p' acc ∧ (∃ a : Nat, e = .returned (.int .i64 a)) ∧ RowOwn w' w.heap.size (.slice va acc.length vc) acc ∧ RSt C w' b' p' ∧ Ow C.pb w w') := fun hx => by
      refine (rtake_any C b q s wr hs).mono ?_
      rintro e w' ⟨b', p', a, hM, rfl, h1, h2⟩
      refine ⟨b', p', ?_, ⟨_, rfl⟩, hrow.ow h2 hpb, h1, ho.trans h2⟩
      rw [hS.out]
      exact loop_out hx hE.out hM
    cases E
    · cases b
      · obtain ⟨c0, c1, c2, c3, _⟩ := hs.cellsF
        clear hexit hE
        have hne1 : Tot ex false q ≠ .out := fun e1 => HN.out (by
          rw [hS.out]
          unfold loopR
          rw [if_neg (by decide), if_neg (by decide), show ex q = .out from e1]
          rfl)
        have c4 := hx wr false q hs hne1 ⟨q, hne1⟩
        obtain ⟨i0, hi0, hz0, hz1, hz2⟩ := info_parts Tryz.infoNode
        have HROW := Lib.hid hrow
        have HO := Lib.hid ho
        have HX := Lib.hid hx
        have hal : acc.length ≤ 8193 := by omega
        have hf1 : f0 + 1 ≤ gk := hf0.resolve_left (by decide)
        have HLT : Hid (∀ j, (Value.slice va acc.length vc).ownBlock = some j → j < wr.heap.size) := by
          obtain ⟨xs0, h1, _⟩ := hrow
          exact fun j hj => (h1.lt j hj).2
        have hwsz := ho.size
        clear hrow ho hx hne1 hs
        go_wp2_with fail
        refine c4.mono ?_
        clear c4 c0 c1 c2 c3
        rintro e3 w5 ⟨b5, q5, k, n, kids, pp, y, c, hM5, rfl, hk5, hs5, ho5⟩
        go_wp2_with (at_builtin; obtain ⟨xs, hown5, hfl5⟩ := HROW.out.ow ho5 hpb; refine wpList_append_fresh _ rfl (.tmp 22) (.tmp 24) 22 rfl (w.heap.size) 53 i0 (.agg #[.int .i64 0, .string ⟨#[]⟩, .slice none 0 0, .int .i64 0]) 4 56 Tryz.underlying22 hi0 hz0 hz1 hz2 rfl (by decide) _ _ _ rfl ((hown5.alloc _).alloc _) ⟨w5.heap.size + 1, 0, none⟩ 1 1 [.int .i64 k, .string ⟨n.toArray⟩, .slice y kids.length c, .int .i64 pp] rfl rfl (by rw [show (w5.heap.size + 1) = (w5.alloc (.cells #[.int .i64 k, .string ⟨n.toArray⟩, .slice y kids.length c, .int .i64 pp] 53)).heap.size by simp]; exact cell_four_new _ _ _ _ _ _) (fun x hx => by simp at hx; rcases hx with rfl | rfl | rfl | rfl <;> rfl) (by unfold maxLen; omega) (by omega) (by have := ho5.size; simp; omega) ?_; intro v' w6 hown' hgrow hfresh)
        obtain ⟨hs6, hr6, ho6⟩ := app_step (HX0.out) hpb hs5 (HO.out.trans ho5) (Nat.le_refl _) (((Below.refl _ _).alloc (Nat.le_refl _) _).alloc (by simp) _) hown5 hfl5 hk5 HLT.out hwsz hown' hgrow hfresh
        have hst := loop_step (ts := C.ts) (L := C.s.size) (e := s) (acc := acc) (f := f0) (one := ex) (show Mt (ex q) b5 q5 _ from hM5) (by rw [← hS.out]; exact HN.out)
        have c6 := ris_any C b5 q5 s w6 hs6
        have c7 := fun w7 (hb : Below w6.heap.size w6 w7) => rtake_any C b5 q5 [44] w7 (hs6.below hb)
        have HST := Lib.hid hst
        have HR6 := Lib.hid hr6
        have HO6 := Lib.hid ho6
        have HS6 := Lib.hid hs6
        clear hown' hgrow hfresh hst hr6 ho6 hs6 hown5 hfl5 hk5 hs5
        go_wp2_with fail
        refine c6.mono ?_
        clear c6
        rintro e7 w7 ⟨rfl, hb7⟩
        cases hi : (!b5 && isT C.ts q5 s)
        · have c8 := c7 w7 hb7
          clear c7
          go_wp2_with fail
          refine c8.mono ?_
          clear c8
          rintro e8 w8 ⟨b8, q8, a8, hM8, rfl, hs8, ho8⟩
          have HS8 := Lib.hid hs8
          have HO8 := Lib.hid ((Ow.of_below hb7).trans ho8)
          obtain ⟨g', hg', hR8⟩ := HST.out.2 hi b8 q8 a8 hM8
          have HR8 := Lib.hid hR8
          clear hs8 hM8 hR8 ho8
          have hf8 : b8 = true ∨ g' + 1 ≤ gk - 1 := hg'.imp id fun e => by omega
          clear hg' hf0
          go_wp2_with fail
          go_roundg (gk - 1)
          case measure => omega
          case rel => exact ⟨acc ++ [.mk k n kids pp], false, b8, q8, g', rfl, HR6.out.ow HO8.out hpb, HS8.out, HO6.out.trans HO8.out, Lib.hid (hS.out.trans HR8.out), Lib.hid (fun e => nomatch e), by simp; omega, hf8⟩
        · clear c7
          obtain ⟨g', hg', hR8⟩ := HST.out.1 hi
          have HR8 := Lib.hid hR8
          have hi2 : isT C.ts q5 s = true := by
            simp only [Bool.and_eq_true] at hi
            exact hi.2
          have HI := Lib.hid hi2
          clear hR8 hi2 hf0
          go_wp2_with fail
          go_roundg (gk - 1)
          case measure => omega
          case rel => exact ⟨acc ++ [.mk k n kids pp], true, b5, q5, g', rfl, HR6.out.below hb7, HS6.out.below hb7, HO6.out.below hb7, Lib.hid (hS.out.trans HR8.out), Lib.hid (fun _ _ => HI.out), by simp; omega, .inr (by omega)⟩
      · obtain ⟨g0, c0, c1, c2, c3, _⟩ := hs.cellsT
        have ht := hexit rfl
        clear hexit hrow hs ho hS hE
        go_wp2_with fail
        refine ht.out.mono ?_
        clear ht
        rintro e3 w3 ⟨b', p', hM, ⟨a, rfl⟩, h1, h2, h3⟩
        have H1 := Lib.hid h1
        have H2 := Lib.hid h2
        have H3 := Lib.hid h3
        have HM := Lib.hid hM
        clear h1 h2 h3 hM
        go_wp2_with fail
        go_ret
        exact ⟨b', p', acc, _, HM.out, rfl, H1.out, H2.out, H3.out⟩
    · have ht := hexit rfl
      clear hexit hrow hs ho hS hE
      go_wp2_with fail
      refine ht.out.mono ?_
      clear ht
      rintro e3 w3 ⟨b', p', hM, ⟨a, rfl⟩, h1, h2, h3⟩
      have H1 := Lib.hid h1
      have H2 := Lib.hid h2
      have H3 := Lib.hid h3
      have HM := Lib.hid hM
      clear h1 h2 h3 hM
      go_wp2_with fail
      go_ret
      exact ⟨b', p', acc, _, HM.out, rfl, H1.out, H2.out, H3.out⟩
end Go.Proofs.YtpbkeamjdolpgaaGreatDoor
