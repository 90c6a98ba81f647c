/- The walk of the parser's statements. The walk of the parser's blocks. Expressions and statements of any depth. The closure at tree.Parse's door; what stands at the head of its loop. The walk of tree.Parse. -/
import Derived.Test.YtpbkeamjdolpgaaGreatDoorZb02
import Derived.RegionDies
import Derived.Deep.RegionLaw
import Derived.Test.YtpbkeamjdolpgaaGreatDoorZb03
import Derived.Test.YtpbkeamjdolpgaaGreatDoorZb01
import Derived.Defers
import Derived.Recover
import Derived.OneCell
import Derived.Laws.Pointers
namespace Go.Proofs.YtpbkeamjdolpgaaGreatDoor
open Go.RowKit Go.Lib Go.Shelf

set_option maxHeartbeats 16000000 in
set_option maxRecDepth 100000 in
theorem stmt_any (C : Ctx) (ex st : Nat → Res Nd) (hx : OneT C 109 ex) (f : Nat) (hf : f ≤ 8192) (hb : OneT C 107 (blockO C.ts C.s.size st f)) : OneT C 60 (stmtO C.ts C.s.size ex st f) := by
  intro w p h _ hne
  have hmf : ∀ (fn : Fn) (first cap : Array Value) (w : World), (Instr.makeFunc fn first cap).run Tryz.prog w = .ok (.func fn first cap) w := fun _ _ _ _ => rfl
  have F2 := fld2
  have hpb := h.lt
  obtain ⟨pl, hpl⟩ : ∃ pl, placeT C.ts C.s.size p = pl := ⟨_, rfl⟩
  have hA : Ow C.pb w (w.alloc zNode) := (Ow.refl _ _).alloc _
  have hsA : PSt C (w.alloc zNode) p := h.below ((Below.refl _ _).alloc (Nat.le_refl _) _)
  have hne0 : w.heap.size ≠ C.pb := by omega
  have H0 := Lib.hid h
  have HA := Lib.hid hA
  obtain ⟨R, hR⟩ : ∃ R, stmtO C.ts C.s.size ex st f p = R := ⟨_, rfl⟩
  rw [hR] at hne ⊢
  have hR2 := hR.symm
  unfold stmtO at hR2
  simp only [hpl, wModule, wFunction, wFor, wIf, wElse] at hR2
  have HR := Lib.hid hR2
  have hZ : Box4 (w.alloc zNode) w.heap.size (.int .i64 0) (.string ⟨#[]⟩) (.slice none 0 0) (.int .i64 0) := Box4.new w _ _ _ _
  have c0 := token_x C p _ hsA _ (fun w1 ho => hZ.x ho hne0)
  rw [hpl] at c0
  have HNE := Lib.hid hne
  have HX : Hid (∀ q w1, PSt C w1 q → ex q ≠ .out → Calls Tryz.prog 109 #[.pointer (some ⟨C.pb, 0, none⟩)] w1 (FinN C w1 (ex q))) := fun q w1 hs hn => hx w1 q hs trivial hn
  have HBK : Hid (∀ q w1, PSt C w1 q → blockO C.ts C.s.size st f q ≠ .out → Calls Tryz.prog 107 #[.pointer (some ⟨C.pb, 0, none⟩)] w1 (FinN C w1 (blockO C.ts C.s.size st f q))) := fun q w1 hs hn => hb w1 q hs trivial hn
  have HPR : Hid (∀ q w1, PSt C w1 q → paramsP C.ts C.s.size f q ≠ .out → Calls Tryz.prog 106 #[.pointer (some ⟨C.pb, 0, none⟩)] w1 (FinN C w1 (paramsP C.ts C.s.size f q))) := fun q w1 hs hn => params_any C f hf q w1 hs hn
  have HAR : Hid (∀ q w1, PSt C w1 q → argsO C.ts C.s.size ex f q ≠ .out → Calls Tryz.prog 110 #[.pointer (some ⟨C.pb, 0, none⟩)] w1 (FinN C w1 (argsO C.ts C.s.size ex f q))) := fun q w1 hs hn => args_any C ex hx f hf w1 q hs trivial hn
  clear hR hR2 hne h hsA hx hb hZ hA hpl
  go_enter Tryz.func60, Tryz.ntmps60
  go_wp2_with fail
  refine c0.mono ?_
  clear c0
  rintro e w1 ⟨rfl, hs1, ho1, ⟨z0, z1, z2, z3, zf⟩, HZ⟩
  have hm := Mid.start H0.out ho1 hs1 0 pl
  have HM := Lib.hid hm
  clear z0 z1 z2 z3 zf HZ
  obtain ⟨⟨n0, n1, n2, n3, nf⟩, z0, z1, z2, z3, zf⟩ := hm.facts
  clear hm hs1 ho1 HA
  generalize hbn : w1.heap.size = bn at *
  go_wp2_with (first | (go_at_call 104; (first | (with_reducible refine (skip_m HM.out HR.out).mono ?_) | (with_reducible refine (skip_m (HM.out.set0 _) HR.out).mono ?_) | (with_reducible refine (skip_m (HM.out.set1 _) HR.out).mono ?_) | (with_reducible refine (skip_m ((HM.out.set0 _).set1 _) HR.out).mono ?_)); clear HM HR n0 n1 n2 n3 nf z0 z1 z2 z3 zf; rintro e w1 (⟨rfl, hr, hm⟩ | ⟨rfl, hr, hm⟩) <;> (have HR := Lib.hid hr; have HM := Lib.hid hm; obtain ⟨⟨n0, n1, n2, n3, nf⟩, z0, z1, z2, z3, zf⟩ := hm.facts; clear hr hm)) | (go_at_call 111; (first | (with_reducible refine (is_m HM.out HR.out).mono ?_) | (with_reducible refine (is_m (HM.out.set0 _) HR.out).mono ?_) | (with_reducible refine (is_m (HM.out.set1 _) HR.out).mono ?_) | (with_reducible refine (is_m ((HM.out.set0 _).set1 _) HR.out).mono ?_)); clear HM HR n0 n1 n2 n3 nf z0 z1 z2 z3 zf; rintro e w1 (⟨rfl, hr, hm⟩ | ⟨rfl, hr, hm⟩) <;> (have HR := Lib.hid hr; have HM := Lib.hid hm; obtain ⟨⟨n0, n1, n2, n3, nf⟩, z0, z1, z2, z3, zf⟩ := hm.facts; clear hr hm)) | (go_at_call 108; (first | (with_reducible refine (take_m HM.out HR.out).mono ?_) | (with_reducible refine (take_m (HM.out.set0 _) HR.out).mono ?_) | (with_reducible refine (take_m (HM.out.set1 _) HR.out).mono ?_) | (with_reducible refine (take_m ((HM.out.set0 _).set1 _) HR.out).mono ?_)); clear HM HR n0 n1 n2 n3 nf z0 z1 z2 z3 zf; rintro e w1 (⟨q', rfl, hr, hm⟩ | ⟨hr, b, hd1, rfl, hd3, hd4⟩) <;> (try (have HR := Lib.hid hr; have HM := Lib.hid hm; obtain ⟨⟨n0, n1, n2, n3, nf⟩, z0, z1, z2, z3, zf⟩ := hm.facts; clear hr hm))) | (go_at_call 105; (first | (with_reducible refine (name_m HM.out HR.out).mono ?_) | (with_reducible refine (name_m (HM.out.set0 _) HR.out).mono ?_) | (with_reducible refine (name_m (HM.out.set1 _) HR.out).mono ?_) | (with_reducible refine (name_m ((HM.out.set0 _).set1 _) HR.out).mono ?_)); clear HM HR n0 n1 n2 n3 nf z0 z1 z2 z3 zf; rintro e w1 (⟨q', nn, rfl, hr, hm⟩ | ⟨hr, b, hd1, rfl, hd3, hd4⟩) <;> (try (have HR := Lib.hid hr; have HM := Lib.hid hm; obtain ⟨⟨n0, n1, n2, n3, nf⟩, z0, z1, z2, z3, zf⟩ := hm.facts; clear hr hm))) | (go_at_call 106; (first | (with_reducible refine (node_m HM.out (fun hs hn => HPR.out _ _ hs hn) HR.out HNE.out).mono ?_) | (with_reducible refine (node_m (HM.out.set0 _) (fun hs hn => HPR.out _ _ hs hn) HR.out HNE.out).mono ?_) | (with_reducible refine (node_m (HM.out.set1 _) (fun hs hn => HPR.out _ _ hs hn) HR.out HNE.out).mono ?_) | (with_reducible refine (node_m ((HM.out.set0 _).set1 _) (fun hs hn => HPR.out _ _ hs hn) HR.out HNE.out).mono ?_)); clear HM HR n0 n1 n2 n3 nf z0 z1 z2 z3 zf; rintro e w1 (⟨k', n, kids, pk, y, c, q', hr, rfl, hk, hm⟩ | ⟨q', hr, b, hd1, rfl, hd3, hd4⟩) <;> (try (have HK := Lib.hid hk; clear hk; have HR := Lib.hid hr; have HM := Lib.hid hm; obtain ⟨⟨n0, n1, n2, n3, nf⟩, z0, z1, z2, z3, zf⟩ := hm.facts; clear hr hm))) | (go_at_call 109; (first | (with_reducible refine (node_m HM.out (fun hs hn => HX.out _ _ hs hn) HR.out HNE.out).mono ?_) | (with_reducible refine (node_m (HM.out.set0 _) (fun hs hn => HX.out _ _ hs hn) HR.out HNE.out).mono ?_) | (with_reducible refine (node_m (HM.out.set1 _) (fun hs hn => HX.out _ _ hs hn) HR.out HNE.out).mono ?_) | (with_reducible refine (node_m ((HM.out.set0 _).set1 _) (fun hs hn => HX.out _ _ hs hn) HR.out HNE.out).mono ?_)); clear HM HR n0 n1 n2 n3 nf z0 z1 z2 z3 zf; rintro e w1 (⟨k', n, kids, pk, y, c, q', hr, rfl, hk, hm⟩ | ⟨q', hr, b, hd1, rfl, hd3, hd4⟩) <;> (try (have HK := Lib.hid hk; clear hk; have HR := Lib.hid hr; have HM := Lib.hid hm; obtain ⟨⟨n0, n1, n2, n3, nf⟩, z0, z1, z2, z3, zf⟩ := hm.facts; clear hr hm))) | (go_at_call 107; (first | (with_reducible refine (node_m HM.out (fun hs hn => HBK.out _ _ hs hn) HR.out HNE.out).mono ?_) | (with_reducible refine (node_m (HM.out.set0 _) (fun hs hn => HBK.out _ _ hs hn) HR.out HNE.out).mono ?_) | (with_reducible refine (node_m (HM.out.set1 _) (fun hs hn => HBK.out _ _ hs hn) HR.out HNE.out).mono ?_) | (with_reducible refine (node_m ((HM.out.set0 _).set1 _) (fun hs hn => HBK.out _ _ hs hn) HR.out HNE.out).mono ?_)); clear HM HR n0 n1 n2 n3 nf z0 z1 z2 z3 zf; rintro e w1 (⟨k', n, kids, pk, y, c, q', hr, rfl, hk, hm⟩ | ⟨q', hr, b, hd1, rfl, hd3, hd4⟩) <;> (try (have HK := Lib.hid hk; clear hk; have HR := Lib.hid hr; have HM := Lib.hid hm; obtain ⟨⟨n0, n1, n2, n3, nf⟩, z0, z1, z2, z3, zf⟩ := hm.facts; clear hr hm))) | (go_at_call 110; (first | (with_reducible refine (node_m HM.out (fun hs hn => HAR.out _ _ hs hn) HR.out HNE.out).mono ?_) | (with_reducible refine (node_m (HM.out.set0 _) (fun hs hn => HAR.out _ _ hs hn) HR.out HNE.out).mono ?_) | (with_reducible refine (node_m (HM.out.set1 _) (fun hs hn => HAR.out _ _ hs hn) HR.out HNE.out).mono ?_) | (with_reducible refine (node_m ((HM.out.set0 _).set1 _) (fun hs hn => HAR.out _ _ hs hn) HR.out HNE.out).mono ?_)); clear HM HR n0 n1 n2 n3 nf z0 z1 z2 z3 zf; rintro e w1 (⟨k', n, kids, pk, y, c, q', hr, rfl, hk, hm⟩ | ⟨q', hr, b, hd1, rfl, hd3, hd4⟩) <;> (try (have HK := Lib.hid hk; clear hk; have HR := Lib.hid hr; have HM := Lib.hid hm; obtain ⟨⟨n0, n1, n2, n3, nf⟩, z0, z1, z2, z3, zf⟩ := hm.facts; clear hr hm))) | (go_at_call 103; (with_reducible refine (add_m HM.out (by simp) HK.out).mono ?_); clear HM HK n0 n1 n2 n3 nf z0 z1 z2 z3 zf; rintro e w1 ⟨rfl, va, m, vc, hm⟩; have HM := Lib.hid hm; obtain ⟨⟨n0, n1, n2, n3, nf⟩, z0, z1, z2, z3, zf⟩ := hm.facts; clear hm))
  all_goals (first | exact ⟨rfl, .inr ⟨_, hr, b, hd1, rfl, hd3, hd4⟩⟩ | exact ⟨rfl, .inr ⟨_, rfl, b, hd1, rfl, hd3, hd4⟩⟩ | skip)
  all_goals (refine ret_node rfl rfl rfl (by simp [go_sem, z0]) (by simp [go_sem, z1]) (by simp [go_sem, z2]) (by simp [go_sem, z3]) (HM.out.done4 (by simpa using HR.out)))
end Go.Proofs.YtpbkeamjdolpgaaGreatDoor
namespace Go.Proofs.YtpbkeamjdolpgaaGreatDoor
open Go.RowKit Go.Lib Go.Shelf

theorem blockL_step {ts : List Tk} {st : Nat → Res Nd} {g : Nat} {acc : List Nd} {q : Nat} (hB : isT ts q [125] = false) : blockL ts st (g + 1) acc q = (st q).bind fun x r => blockL ts st g (acc ++ [x]) r := by
  show (if isT ts q [125] = true then _ else _) = _
  rw [hB]; rfl
theorem blockL_end {ts : List Tk} {st : Nat → Res Nd} {g : Nat} {acc : List Nd} {q : Nat} (hB : isT ts q [125] = true) : blockL ts st (g + 1) acc q = .ok acc (q + 1) := by
  show (if isT ts q [125] = true then _ else _) = _
  rw [if_pos hB]

set_option maxHeartbeats 16000000 in
set_option maxRecDepth 100000 in
theorem block_any (C : Ctx) (st : Nat → Res Nd) (hst : OneT C 60 st) (f : Nat) (hf : f ≤ 8192) : OneT C 107 (blockO C.ts C.s.size st f) := by
  intro w p h _ hne
  have hpb := h.lt
  obtain ⟨pl, hpl⟩ : ∃ pl, placeT C.ts C.s.size p = pl := ⟨_, rfl⟩
  have hA : Ow C.pb w (w.alloc zNode) := (Ow.refl _ _).alloc _
  have hsA : PSt C (w.alloc zNode) p := h.below ((Below.refl _ _).alloc (Nat.le_refl _) _)
  have hne0 : w.heap.size ≠ C.pb := by omega
  have H0 := Lib.hid h
  obtain ⟨i0, hi0, hz0, hz1, hz2⟩ := info_parts Tryz.infoNode
  have HA := Lib.hid hA
  obtain ⟨R, hR⟩ : ∃ R, blockO C.ts C.s.size st f p = R := ⟨_, rfl⟩
  rw [hR] at hne ⊢
  have hR2 := hR.symm
  unfold blockO at hR2
  have HR := Lib.hid hR2
  have hZ : Box4 (w.alloc zNode) w.heap.size (.int .i64 0) (.string ⟨#[]⟩) (.slice none 0 0) (.int .i64 0) := Box4.new w _ _ _ _
  have c0 := take_x C p [123] _ hsA _ (fun w1 ho => hZ.x ho hne0)
  rw [hpl] at c0
  have HNE := Lib.hid hne
  have HST := Lib.hid hst
  have HPL := Lib.hid hpl
  clear hR hR2 hne h hsA hst hZ hA hpl
  go_enter Tryz.func107, Tryz.ntmps107
  go_wp2_with fail
  refine c0.mono ?_
  clear c0
  rintro e w1 (⟨q, hr, rfl, hs1, ho1, ⟨z0, z1, z2, z3, zf⟩, HZ⟩ | ⟨hr, b, hd1, rfl, hd3, hd4⟩)
  · have hm := Mid.start H0.out ho1 hs1 0 pl
    have HM := Lib.hid hm
    have hR3 := HR.out
    rw [hr] at hR3
    have hR4 : R = (blockL C.ts st f [] q).bind fun l r => .ok (.mk 0 [] l pl) r := hR3
    have HR4 := Lib.hid hR4
    clear z0 z1 z2 z3 zf HZ hm hs1 ho1 HA hR3 hR4 hr HR
    generalize hbn : w1.heap.size = bn at *
    go_wp2_with fail
    go_loopg [] f (fun g wx => ∃ (acc : List Nd) (q : Nat) (va : Option Addr) (m vc : Nat), Mid C w bn 0 [] (.slice va m vc) acc pl q wx ∧ Hid (R = (blockL C.ts st g acc q).bind fun l r => .ok (.mk 0 [] l pl) r) ∧ acc.length + g ≤ f)
    case atStart => exact ⟨[], q, none, 0, 0, HM.out, HR4, by simp⟩
    case round =>
      clear HM HR4
      obtain ⟨acc, q, va, m, vc, hm, hS, hlen⟩ := hrel
      obtain ⟨g', rfl⟩ : ∃ g', gk = g' + 1 := by
        cases gk with
        | zero => exact absurd hS.out HNE.out
        | succ g' => exact ⟨g', rfl⟩
      have hm0 : acc.length = m := by
        obtain ⟨_, _, hv, _⟩ := hm.row
        cases hv
        rfl
      have HM := Lib.hid hm
      obtain ⟨⟨n0, n1, n2, n3, nf⟩, z0, z1, z2, z3, zf⟩ := hm.facts
      have c1 := is_b hm [125]
      clear hm
      go_wp2_with fail
      refine c1.mono ?_
      clear c1 HM n0 n1 n2 n3 nf z0 z1 z2 z3 zf
      rintro e w3 (⟨rfl, hB, hm⟩ | ⟨rfl, hB, hm⟩)
      · have hR := hS.out
        rw [blockL_end hB] at hR
        have hR2 : R = (takeP C.ts C.s.size [125] q).bind fun _ e => .ok (.mk 0 [] acc pl) e := by rw [hR]; unfold takeP; rw [if_pos hB]; rfl
        have c2 := take_m hm hR2
        clear hS hR hR2 hB hm
        go_wp2_with fail
        refine c2.mono ?_
        clear c2
        rintro e w4 (⟨q', rfl, hr, hm⟩ | ⟨hr, b, hd1, rfl, hd3, hd4⟩)
        · have HR := Lib.hid hr
          have HM := Lib.hid hm
          obtain ⟨⟨n0, n1, n2, n3, nf⟩, z0, z1, z2, z3, zf⟩ := hm.facts
          clear hr hm
          go_wp2_with fail
          exact ret_node rfl rfl rfl (by simp [go_sem, z0]) (by simp [go_sem, z1]) (by simp [go_sem, z2]) (by simp [go_sem, z3]) (HM.out.done4 HR.out)
        · exact ⟨rfl, .inr ⟨_, hr, b, hd1, rfl, hd3, hd4⟩⟩
      · have hR := hS.out
        rw [blockL_step hB] at hR
        have hal : acc.length ≤ 8192 := by omega
        have hmd := hm.drew
        obtain ⟨_, _, m2, _, mf⟩ := hmd.facts.1
        have hne : st q ≠ .out := fun e => HNE.out (by rw [hR, e]; rfl)
        have c4 := HST.out w3.drew q hmd.2.2.2.1 trivial hne
        have HM := Lib.hid hmd
        clear hS hB hm hmd
        cases hst : st q with
        | out => exact absurd hst hne
        | bad q' =>
          have c5 := node_bad c4 hst
          have hr : R = .bad q' := by rw [hR, hst]; rfl
          have HRB := Lib.hid hr
          clear c4 hne hR hst hr
          go_wp2_with fail
          go_region_dies
          all_goals (
            refine c5.mono ?_
            rintro e w5 ⟨b, hd1, rfl, hd3, hd4⟩
            have ho := HM.out.2.2.2.2.1
            exact ⟨rfl, .inr ⟨_, HRB.out, b, Nat.le_trans ho.size hd1, rfl, hd3, ho.trans hd4⟩⟩)
        | ok nd q' =>
          obtain ⟨k', n', kids, pk⟩ := nd
          have c5 := node_okm HM.out c4 hst
          have hR2 : R = (blockL C.ts st g' (acc ++ [.mk k' n' kids pk]) q').bind fun l r => .ok (.mk 0 [] l pl) r := by rw [hR, hst]; rfl
          have HR := Lib.hid hR2
          clear c4 hne hR hR2 hst HM
          go_wp2_with fail
          go_region_law (first | (go_simp; go_at_call 60; (with_reducible refine c5.mono ?_); rintro e w5 ⟨y, c, rfl, hk, hm⟩; obtain ⟨_, _, b2, _, bf⟩ := hm.facts.1; have b2o := fun o => al_cell b2 o; obtain ⟨hl1, hl2, hl3⟩ := hm.lt; obtain ⟨xs, hown, hfl⟩ := hm.2.1; rw [hm0] at hown; have HOWN := Lib.hid (hown.alloc (.cells #[.int .i64 k', .string ⟨n'.toArray⟩, .slice y kids.length c, .int .i64 pk] 53)); have HLT := Lib.hid hown.lt; have HCZ := Lib.hid (cell_four_new w5 (.int .i64 k') (.string ⟨n'.toArray⟩) (.slice y kids.length c) (.int .i64 pk) 53); have hz5 : (w5.alloc (.cells #[.int .i64 k', .string ⟨n'.toArray⟩, .slice y kids.length c, .int .i64 pk] 53)).heap.size = w5.heap.size + 1 := World.size_alloc _ _; have HB1 := Lib.hid (hm.1.alloc (.cells #[.int .i64 k', .string ⟨n'.toArray⟩, .slice y kids.length c, .int .i64 pk] 53)); have HBN : Hid (some bn ≠ (Value.slice va m vc).ownBlock) := (fun e => by have := hown.lt bn e.symm; omega); have HFL := Lib.hid hfl; have HM := Lib.hid hm; have HK := Lib.hid hk; clear hm hk hown hfl) | (refine step_append_lies _ rfl (.tmp 11) (.tmp 14) 22 rfl (bn + 1) 53 i0 (.agg #[.int .i64 0, .string ⟨#[]⟩, .slice none 0 0, .int .i64 0]) 4 56 Tryz.underlying22 hi0 hz0 hz1 hz2 rfl (by decide) (.slice va m vc) m xs (by simp [Act.eval]) HOWN.out ⟨w5.heap.size, 0, none⟩ 1 1 [.int .i64 k', .string ⟨n'.toArray⟩, .slice y kids.length c, .int .i64 pk] (by simp [Act.eval]) rfl HCZ.out (fun x hx => by simp at hx; rcases hx with rfl | rfl | rfl | rfl <;> rfl) (by omega) (by unfold maxLen; omega) (by omega) (by omega) _ rfl ?_; intro g cap w6 hown' hgrow hat hlt; obtain ⟨_, _, d2, _, df⟩ := (keep_far HB1.out hgrow HBN.out).facts; have HO := Lib.hid hown'; have HG := Lib.hid hgrow; clear hown' hgrow))
          all_goals (
            have hpush := HM.out.push hm0 HK.out HFL.out HLT.out ((Below.refl _ _).alloc (Nat.le_refl _) _) HO.out HG.out hat
            clear d2 df b2 b2o bf HB1 HBN HOWN HCZ m2 mf c5
            go_wp2_with fail
            go_roundg g'
            case measure => omega
            case rel => exact ⟨_, q', _, _, _, hpush, HR, by simp; omega⟩)
  · refine ⟨rfl, .inr ⟨p, ?_, b, Nat.le_trans HA.out.size hd1, rfl, hd3, HA.out.trans hd4⟩⟩
    rw [HR.out, hr]
    rfl
end Go.Proofs.YtpbkeamjdolpgaaGreatDoor
namespace Go.Proofs.YtpbkeamjdolpgaaGreatDoor
open Go.RowKit Go.Lib Go.Shelf

theorem exprP_any (C : Ctx) : ∀ f : Nat, f ≤ 8192 → OneT C 109 (exprP C.ts C.s.size f)
  | 0, _ => fun _ _ _ _ hne => absurd rfl hne
  | f + 1, hf => expr_any C (exprP C.ts C.s.size f) (exprP_any C f (by omega)) f (by omega)
theorem stmtP_any (C : Ctx) (F : Nat) (hF : F ≤ 8192) : ∀ f : Nat, OneT C 60 (stmtP C.ts C.s.size F f)
  | 0 => fun _ _ _ _ hne => absurd rfl hne
  | f + 1 => stmt_any C (exprP C.ts C.s.size F) (stmtP C.ts C.s.size F f) (exprP_any C F hF) F hF (block_any C (stmtP C.ts C.s.size F f) (stmtP_any C F hF f) F hF)
end Go.Proofs.YtpbkeamjdolpgaaGreatDoor
namespace Go.Proofs.YtpbkeamjdolpgaaGreatDoor
open Go.RowKit Go.Lib Go.Shelf

theorem Tryz.isFaultE (v : Value) (w : World) : (Instr.typeAssert (.iface 23 v) 20 23 true).run Tryz.prog w = .ok (.tuple #[v, .bool true]) w := by kernel_rfl
def DoorQ (w0 : World) (e : Exit) (a : Act) (w : World) : Prop := e = .normal ∧ a.defers = [] ∧ w = w0
/-! The closure that waits at Parse's door, for a frame that panics with a fault. -/
set_option maxHeartbeats 400000 in
set_option maxRecDepth 100000 in
theorem door_dies (pa pe : Nat) (v0 v1 : Value) (b : Nat) (w : World) (hc : w.cell? ⟨pa, 0, none⟩ = some v0) (hz : w.frozen? ⟨pa, 0, none⟩ = false) (hc1 : w.cell? ⟨pe, 0, none⟩ = some v1) (hz1 : w.frozen? ⟨pe, 0, none⟩ = false) (hne : pe ≠ pa) :
    CallsD Tryz.prog 59 #[.pointer (some ⟨pa, 0, none⟩), .pointer (some ⟨pe, 0, none⟩)] (.panicking ({ v := .iface 23 (.pointer (some ⟨b, 0, none⟩)), recovered := false } :: [])) w fun e u' w' =>
      e = .returned (.tuple #[]) ∧ u' = .panicking ({ v := .iface 23 (.pointer (some ⟨b, 0, none⟩)), recovered := true } :: []) ∧ w' = (w.setCell ⟨pa, 0, none⟩ (.slice none 0 0)).setCell ⟨pe, 0, none⟩ (.iface 23 (.pointer (some ⟨b, 0, none⟩))) := by
  have hc2 : (w.setCell ⟨pa, 0, none⟩ (.slice none 0 0)).cell? ⟨pe, 0, none⟩ = some v1 := (World.cell?_of_block (Below.heap_setCell w _ _ _ hne)).trans hc1
  have hz2 : (w.setCell ⟨pa, 0, none⟩ (.slice none 0 0)).frozen? ⟨pe, 0, none⟩ = false := (World.frozen?_of_block (Below.heap_setCell w _ _ _ hne)).trans hz1
  clear hne
  refine callsD_of_wpS Tryz.func59 rfl fun c₀ cs hu => ?_
  apply wpS_seq
  apply wpS_region
  simp [wpOpsS, go_sem, recoverD, hu, Tryz.ntmps59, Exit.thenS]
  have hTA := Tryz.isFaultE
  refine wpS_of_wp ?_
  clear hu
  refine Code.wp_mono (Q := DoorQ ((w.setCell ⟨pa, 0, none⟩ (.slice none 0 0)).setCell ⟨pe, 0, none⟩ (.iface 23 (.pointer (some ⟨b, 0, none⟩))))) ?_ ?_
  · rintro e a' w' ⟨rfl, hd, rfl⟩
    exact ⟨hd, _, rfl, .tuple #[], by simp [results, Tryz.results59], rfl, rfl, rfl⟩
  · clear cs c₀
    have e : (#[Value.pointer (some ⟨pa, 0, none⟩), Value.pointer (some ⟨pe, 0, none⟩)] ++ ((Array.replicate 16 undef).setIfInBounds 3 (Value.iface 23 (Value.pointer (some ⟨b, 0, none⟩)))).setIfInBounds 0 (Value.iface 23 (Value.pointer (some ⟨b, 0, none⟩))) : Array Value) =
      #[Value.pointer (some ⟨pa, 0, none⟩), Value.pointer (some ⟨pe, 0, none⟩), Value.iface 23 (Value.pointer (some ⟨b, 0, none⟩)), undef, undef, Value.iface 23 (Value.pointer (some ⟨b, 0, none⟩)), undef, undef, undef, undef, undef, undef, undef, undef, undef, undef, undef, undef] := rfl
    rw [e]
    clear e
    go_wp2_with fail
    exact ⟨rfl, rfl, rfl⟩
theorem door_idle (pa pe : Nat) (w : World) :
    CallsD Tryz.prog 59 #[.pointer (some ⟨pa, 0, none⟩), .pointer (some ⟨pe, 0, none⟩)] .returning w fun e u' w' => e = .returned (.tuple #[]) ∧ u' = .returning ∧ w' = w := by
  refine callsD_of_wpS Tryz.func59 rfl fun c₀ cs hu => ?_
  apply wpS_seq
  apply wpS_region
  simp [wpOpsS, go_sem, recoverD, hu, Tryz.ntmps59, Exit.thenS]
  refine wpS_of_wp ?_
  refine Code.wp_mono (Q := DoorQ w) ?_ ?_
  · rintro e a' w' ⟨rfl, hd, rfl⟩
    refine ⟨hd, .returning, ?_, .tuple #[], by simp [results, Tryz.results59], rfl, rfl, rfl⟩
    cases c₀
    simp_all
  · clear hu cs c₀
    have e : (#[Value.pointer (some ⟨pa, 0, none⟩), Value.pointer (some ⟨pe, 0, none⟩)] ++ ((Array.replicate 16 undef).setIfInBounds 3 Value.nilIface).setIfInBounds 0 Value.nilIface : Array Value) =
      #[Value.pointer (some ⟨pa, 0, none⟩), Value.pointer (some ⟨pe, 0, none⟩), Value.nilIface, undef, undef, Value.nilIface, undef, undef, undef, undef, undef, undef, undef, undef, undef, undef, undef, undef] := rfl
    rw [e]
    clear e
    go_wp2_with fail
    exact ⟨rfl, rfl, rfl⟩
end Go.Proofs.YtpbkeamjdolpgaaGreatDoor
namespace Go.Proofs.YtpbkeamjdolpgaaGreatDoor
open Go.RowKit Go.Lib Go.Shelf

def PM (C : Ctx) (w0 : World) (pa pe : Nat) (v : Value) (acc : List Nd) (q : Nat) (w : World) : Prop :=
  w.heap[pa]? = some (.cells #[v] 22 (0, 0)) ∧ w.heap[pe]? = some (.cells #[.nilIface] 36 (0, 0)) ∧ RowOwn w (C.pb + 1) v acc ∧ PSt C w q ∧ Below w0.heap.size w0 w ∧ w0.heap.size ≤ pa ∧ pa < pe ∧ pe < C.pb ∧ ∀ g, C.x = some ⟨g, 0, none⟩ → pe < g ∧ g < C.pb
section
variable {C : Ctx} {w0 : World} {pa pe : Nat} {v : Value} {acc : List Nd} {q : Nat} {w : World}
theorem PM.ow (h : PM C w0 pa pe v acc q w) {q' : Nat} {w' : World} (hs : PSt C w' q') (ho : Ow C.pb w w') : PM C w0 pa pe v acc q' w' := by
  obtain ⟨h1, h2, h3, h4, h5, h6, h7, h8, h9⟩ := h
  have hl := h4.lt
  have hz := h5.size
  exact ⟨(ho.block pa (by omega) (by omega)).trans h1, (ho.block pe (by omega) (by omega)).trans h2, h3.ow ho (by omega), hs, h5.trans (ho.toBelow (by omega) hz), h6, h7, h8, h9⟩
theorem PM.below (h : PM C w0 pa pe v acc q w) {w' : World} (hb : Below w.heap.size w w') : PM C w0 pa pe v acc q w' := h.ow (h.2.2.2.1.below hb) (Ow.of_below hb)
theorem PM.drewN (h : PM C w0 pa pe v acc q w) (n : Nat) : PM C w0 pa pe v acc q (w.drewN n) := h.below (bdn (Below.refl _ _) n)
theorem PM.facts (h : PM C w0 pa pe v acc q w) : (w.cell? ⟨pa, 0, none⟩ = some v ∧ w.frozen? ⟨pa, 0, none⟩ = false ∧ w.cell? ⟨pe, 0, none⟩ = some .nilIface ∧ w.frozen? ⟨pe, 0, none⟩ = false) ∧ w.cell? ⟨C.pb, 1, none⟩ = some (.slice C.x C.ts.length C.c) ∧ w.cell? ⟨C.pb, 2, none⟩ = some (.int .i64 q) := by
  obtain ⟨h1, h2, h3, h4, _⟩ := h
  exact ⟨⟨cell_of_one h1, free_of_one h1, cell_of_one h2, free_of_one h2⟩, h4.cells.2.1, h4.cells.2.2.1⟩
theorem PM.lt (h : PM C w0 pa pe v acc q w) : w0.heap.size ≤ pa ∧ pa < pe ∧ pe < C.pb ∧ C.pb < w.heap.size := ⟨h.2.2.2.2.2.1, h.2.2.2.2.2.2.1, h.2.2.2.2.2.2.2.1, h.2.2.2.1.lt⟩
theorem PM.row (h : PM C w0 pa pe v acc q w) : ∃ y c, v = .slice y acc.length c ∧ NdRow w (fun b => C.pb + 1 ≤ b) acc y := by
  obtain ⟨a, c, h1, _, h3⟩ := h.2.2.1.shape
  exact ⟨a, c, h1, h3⟩
theorem node_p (h : PM C w0 pa pe v acc q w) {F : Nat} {args : Array Value} {S : Res Nd} (hc : Calls Tryz.prog F args w (FinN C w S)) {k' : Int} {n : List UInt8} {kids : List Nd} {p : Int} {q' : Nat} (hS : S = .ok (.mk k' n kids p) q') :
    Calls Tryz.prog F args w fun e w' => ∃ y, ∃ c : Cp kids.length, e = .returned (.agg #[.int .i64 k', .string ⟨n.toArray⟩, .slice y kids.length c, .int .i64 p]) ∧ NdRow w' (fun b => C.pb + 1 ≤ b ∧ some b ≠ v.ownBlock) kids y ∧ PM C w0 pa pe v acc q' w' ∧ Ow C.pb w w' := by
  refine (node_ok hc hS (fun _ => True) (fun _ _ => trivial)).mono ?_
  rintro e w' ⟨y, c, he, hk, hs, ho, _⟩
  have hl := h.2.2.2.1.lt
  obtain ⟨xs, hown, _⟩ := h.2.2.1
  exact ⟨y, c, he, hk.wide fun b hb _ => ⟨by omega, fun e => by have := (hown.lt b e.symm).2; omega⟩, h.ow hs ho, ho⟩
end
theorem push_facts {w6 : World} {pa base g n cap : Nat} {e t : TypeId} {xs : List Value} {z0 z1 z2 z3 u : Value} (hP : w6.heap[pa]? = some (.cells #[u] t (0, 0))) (ho : w6.ownsRow base e 4 (.slice (some ⟨g, 0, none⟩) (n + 1) cap) (n + 1) (xs ++ [z0, z1, z2, z3])) (hg : g ≠ pa) (hxl : xs.length = n * 4) :
    (w6.cell? ⟨g, n * 4, none⟩ = some z0 ∧ w6.cell? ⟨g, n * 4 + 1, none⟩ = some z1 ∧ w6.cell? ⟨g, n * 4 + 2, none⟩ = some z2 ∧ w6.cell? ⟨g, n * 4 + 3, none⟩ = some z3 ∧ ∀ o, w6.frozen? ⟨g, o, none⟩ = false) ∧
    (∀ v, (w6.setCell ⟨pa, 0, none⟩ v).cell? ⟨g, n * 4, none⟩ = some z0 ∧ (w6.setCell ⟨pa, 0, none⟩ v).cell? ⟨g, n * 4 + 1, none⟩ = some z1 ∧ (w6.setCell ⟨pa, 0, none⟩ v).cell? ⟨g, n * 4 + 2, none⟩ = some z2 ∧ (w6.setCell ⟨pa, 0, none⟩ v).cell? ⟨g, n * 4 + 3, none⟩ = some z3 ∧ ∀ o, (w6.setCell ⟨pa, 0, none⟩ v).frozen? ⟨g, o, none⟩ = false) ∧
    (w6.cell? ⟨pa, 0, none⟩ = some u ∧ w6.frozen? ⟨pa, 0, none⟩ = false) ∧
    (∀ a b c d, ((((w6.setCell ⟨g, n * 4, none⟩ a).setCell ⟨g, n * 4 + 1, none⟩ b).setCell ⟨g, n * 4 + 2, none⟩ c).setCell ⟨g, n * 4 + 3, none⟩ d).cell? ⟨pa, 0, none⟩ = some u ∧ ((((w6.setCell ⟨g, n * 4, none⟩ a).setCell ⟨g, n * 4 + 1, none⟩ b).setCell ⟨g, n * 4 + 2, none⟩ c).setCell ⟨g, n * 4 + 3, none⟩ d).frozen? ⟨pa, 0, none⟩ = false) := by
  obtain ⟨t0, t1, t2, t3, tf⟩ := own_top ho hxl
  have hs : ∀ v, (w6.setCell ⟨pa, 0, none⟩ v).heap[g]? = w6.heap[g]? := fun v => Below.heap_setCell _ _ _ _ hg
  have hs4 : ∀ a b c d, ((((w6.setCell ⟨g, n * 4, none⟩ a).setCell ⟨g, n * 4 + 1, none⟩ b).setCell ⟨g, n * 4 + 2, none⟩ c).setCell ⟨g, n * 4 + 3, none⟩ d).heap[pa]? = some (.cells #[u] t (0, 0)) := fun a b c d => by
    rw [Below.heap_setCell _ _ _ _ (show pa ≠ g from Ne.symm hg), Below.heap_setCell _ _ _ _ (show pa ≠ g from Ne.symm hg), Below.heap_setCell _ _ _ _ (show pa ≠ g from Ne.symm hg), Below.heap_setCell _ _ _ _ (show pa ≠ g from Ne.symm hg)]
    exact hP
  have kc : ∀ (w1 : World) (o : Nat) (x : Value), w1.heap[g]? = w6.heap[g]? → w6.cell? ⟨g, o, none⟩ = some x → w1.cell? ⟨g, o, none⟩ = some x := fun w1 o x he hc => (World.cell?_of_block (a := ⟨g, o, none⟩) he).trans hc
  refine ⟨⟨t0, t1, t2, t3, tf⟩, fun v => ?_, ⟨cell_of_one hP, free_of_one hP⟩, fun a b c d => ⟨cell_of_one (hs4 a b c d), free_of_one (hs4 a b c d)⟩⟩
  exact ⟨kc _ _ _ (hs v) t0, kc _ _ _ (hs v) t1, kc _ _ _ (hs v) t2, kc _ _ _ (hs v) t3, fun o => (World.frozen?_of_block (a := ⟨g, o, none⟩) (hs v)).trans (tf o)⟩
theorem setCell_far4 (w : World) (pa g n : Nat) (a b c d v : Value) (h : pa ≠ g) : ((((w.setCell ⟨pa, 0, none⟩ v).setCell ⟨g, n * 4, none⟩ a).setCell ⟨g, n * 4 + 1, none⟩ b).setCell ⟨g, n * 4 + 2, none⟩ c).setCell ⟨g, n * 4 + 3, none⟩ d = ((((w.setCell ⟨g, n * 4, none⟩ a).setCell ⟨g, n * 4 + 1, none⟩ b).setCell ⟨g, n * 4 + 2, none⟩ c).setCell ⟨g, n * 4 + 3, none⟩ d).setCell ⟨pa, 0, none⟩ v := by
  rw [setCell_comm w ⟨pa, 0, none⟩ ⟨g, n * 4, none⟩ v a h, setCell_comm _ ⟨pa, 0, none⟩ ⟨g, n * 4 + 1, none⟩ v b h, setCell_comm _ ⟨pa, 0, none⟩ ⟨g, n * 4 + 2, none⟩ v c h, setCell_comm _ ⟨pa, 0, none⟩ ⟨g, n * 4 + 3, none⟩ v d h]
set_option maxHeartbeats 1000000 in
theorem PM.push {C : Ctx} {w0 : World} {pa pe : Nat} {acc : List Nd} {q : Nat} {w w2 w6 : World} {va : Option Addr} {m vc g cap : Nat} {xs : List Value} {k' : Int} {n : List UInt8} {kids : List Nd} {p : Int} {y : Option Addr} {c : Cp kids.length} {z0 z1 z2 z3 : Value} (h : PM C w0 pa pe (.slice va m vc) acc q w) (hm : acc.length = m) (hk : NdRow w (fun b => C.pb + 1 ≤ b ∧ some b ≠ (Value.slice va m vc).ownBlock) kids y)
    (hfl : NFlat w (fun k => C.pb + 1 ≤ k ∧ some k ≠ (Value.slice va m vc).ownBlock) acc xs) (hxl : xs.length = m * 4) (hown : ∀ k, (Value.slice va m vc).ownBlock = some k → C.pb + 1 ≤ k ∧ k < w.heap.size) (hw : Below w.heap.size w w2)
    (ho : w6.ownsRow (C.pb + 1) 53 4 (.slice (some ⟨g, 0, none⟩) (m + 1) cap) (m + 1) (xs ++ [z0, z1, z2, z3])) (hgr : w2.grownBy w6 (Value.slice va m vc).ownBlock) (hat : (Value.slice va m vc).ownBlock = some g ∨ g = w2.heap.size) :
    PM C w0 pa pe (.slice (some ⟨g, 0, none⟩) (m + 1) cap) (acc ++ [.mk k' n kids p]) q (((((w6.setCell ⟨g, m * 4, none⟩ (.int .i64 k')).setCell ⟨g, m * 4 + 1, none⟩ (.string ⟨n.toArray⟩)).setCell ⟨g, m * 4 + 2, none⟩ (.slice y kids.length c)).setCell ⟨g, m * 4 + 3, none⟩ (.int .i64 p)).setCell ⟨pa, 0, none⟩ (.slice (some ⟨g, 0, none⟩) (m + 1) cap)) := by
  obtain ⟨h1, h2, h3, h4, h5, h6, h7, h8, h9⟩ := h
  have hl := h4.lt
  have hs2 := hw.size
  have hcp : C.pb ≠ pa := by omega
  have hcg : ∀ gx, C.x = some ⟨gx, 0, none⟩ → gx < C.pb + 1 ∧ gx ≠ pa := fun gx hx => by have := h9 gx hx; omega
  have hg1 : C.pb < g := by
    rcases hat with e | e
    · have := hown g e; omega
    · omega
  obtain ⟨W, hW⟩ : ∃ W, W = (((((w6.setCell ⟨g, m * 4, none⟩ (.int .i64 k')).setCell ⟨g, m * 4 + 1, none⟩ (.string ⟨n.toArray⟩)).setCell ⟨g, m * 4 + 2, none⟩ (.slice y kids.length c)).setCell ⟨g, m * 4 + 3, none⟩ (.int .i64 p)).setCell ⟨pa, 0, none⟩ (.slice (some ⟨g, 0, none⟩) (m + 1) cap)) := ⟨_, rfl⟩
  rw [← hW]
  have hheap : ∀ j, j ≠ pa → j ≠ g → W.heap[j]? = w6.heap[j]? := fun j g1 g2 => by
    rw [hW, Below.heap_setCell _ _ _ _ g1, Below.heap_setCell _ _ _ _ g2, Below.heap_setCell _ _ _ _ g2, Below.heap_setCell _ _ _ _ g2, Below.heap_setCell _ _ _ _ g2]
  have hold : ∀ j, j < w.heap.size → some j ≠ (Value.slice va m vc).ownBlock → w6.heap[j]? = w.heap[j]? := fun j hj hn => (hgr.block j (by omega) hn).trans (hw.block j hj)
  have hnb : ∀ j, j < C.pb + 1 → some j ≠ (Value.slice va m vc).ownBlock := fun j hj e => by have := hown j e.symm; omega
  have hkeep : ∀ j, (C.pb + 1 ≤ j ∧ some j ≠ (Value.slice va m vc).ownBlock) → j < w.heap.size → W.heap[j]? = w.heap[j]? := fun j hj hlt => by
    rw [hheap j (by omega) (fun e => by
      rcases hat with h | h
      · exact hj.2 (by rw [h, e])
      · omega)]
    exact hold j hlt hj.2
  have hne : ∀ j, (C.pb + 1 ≤ j ∧ some j ≠ (Value.slice va m vc).ownBlock) → j < w.heap.size → C.pb + 1 ≤ j ∧ some j ≠ (Value.slice (some ⟨g, 0, none⟩) (m + 1) cap).ownBlock := fun j hj hlt => ⟨hj.1, fun e => by
    have e2 : j = g := by simpa [Value.ownBlock] using e
    rcases hat with h | h
    · exact hj.2 (by rw [h, e2])
    · omega⟩
  have hlow : ∀ j, j < C.pb + 1 → j ≠ pa → W.heap[j]? = w.heap[j]? := fun j hj hp => by
    rw [hheap j hp (by omega)]
    exact hold j (by omega) (hnb j hj)
  have hsz : W.heap.size = w6.heap.size := by rw [hW]; simp [World.setCell]
  have hpa : W.heap[pa]? = some (.cells #[.slice (some ⟨g, 0, none⟩) (m + 1) cap] 22 (0, 0)) := by
    rw [hW]
    refine one_setCell (v := .slice va m vc) ?_
    rw [Below.heap_setCell _ _ _ _ (show pa ≠ g by omega), Below.heap_setCell _ _ _ _ (show pa ≠ g by omega), Below.heap_setCell _ _ _ _ (show pa ≠ g by omega), Below.heap_setCell _ _ _ _ (show pa ≠ g by omega)]
    exact (hold pa (by omega) (hnb pa (by omega))).trans h1
  have hrow : W.ownsRow (C.pb + 1) 53 4 (.slice (some ⟨g, 0, none⟩) (m + 1) cap) (m + 1) (xs ++ [.int .i64 k', .string ⟨n.toArray⟩, .slice y kids.length c, .int .i64 p]) := by
    have hr := own_set4 (v0 := .int .i64 k') (v1 := .string ⟨n.toArray⟩) (v2 := .slice y kids.length c) (v3 := .int .i64 p) ho hxl
    refine ⟨hr.1, ?_⟩
    rcases hr.2 with ⟨_, h0⟩ | ⟨g', cap', cur, i1, i2, i3, i4⟩
    · omega
    · refine .inr ⟨g', cap', cur, i1, i2, ?_, i4⟩
      cases i1
      rw [hW, Below.heap_setCell _ _ _ _ (show g ≠ pa by omega)]
      exact i3
  have hos : W.os = w6.os ∧ W.tape = w6.tape ∧ W.output = w6.output := by rw [hW]; exact ⟨rfl, rfl, rfl⟩
  clear hW
  refine ⟨hpa, (hlow pe (by omega) (by omega)).trans h2, ⟨xs ++ [.int .i64 k', .string ⟨n.toArray⟩, .slice y kids.length c, .int .i64 p], ?_, ?_⟩, ?_, ?_, h6, h7, h8, h9⟩
  · have e : (acc ++ [Nd.mk k' n kids p]).length = m + 1 := by simp [hm]
    rw [e]
    exact hrow
  · exact NFlat.app (NdRow.cells (NdRow.mono hne hkeep _ _ hk)) (NFlat.mono hne hkeep hfl)
  · refine ⟨(hlow C.pb (Nat.lt_succ_self _) hcp).trans h4.blk, ?_, h4.xne, h4.le, h4.len⟩
    intro i u hu
    obtain ⟨gx, r1, r2, r3, r4⟩ := h4.row i u hu
    have hb := hlow gx (hcg gx r1).1 (hcg gx r1).2
    exact ⟨gx, r1, (World.cell?_of_block hb).trans r2, (World.cell?_of_block hb).trans r3, (World.cell?_of_block hb).trans r4⟩
  · refine ⟨hos.1.trans (hgr.os.trans (hw.os.trans h5.os)), hos.2.1.trans (hgr.tape.trans (hw.tape.trans h5.tape)), hos.2.2.trans (hgr.output.trans (hw.output.trans h5.output)), ?_, fun j hj => ?_⟩
    · rw [hsz]
      have := h5.size
      have := hgr.size
      omega
    · exact (hlow j (by omega) (by omega)).trans (h5.block j hj)
theorem res_two {fn : Func} {p q : Tmp} (hr : fn.results = #[.cell p 22, .cell q 36]) {tmps : Array Value} {w : World} {a b : Nat} {v0 v1 : Value} (hp : tmps.getD p undef = .pointer (some ⟨a, 0, none⟩)) (hq : tmps.getD q undef = .pointer (some ⟨b, 0, none⟩)) (c0 : w.cell? ⟨a, 0, none⟩ = some v0) (c1 : w.cell? ⟨b, 0, none⟩ = some v1) : (results fn tmps).run Tryz.prog w = .ok (.tuple #[v0, v1]) w := by
  have hp' : tmps[p]?.getD undef = .pointer (some ⟨a, 0, none⟩) := by simpa using hp
  have hq' : tmps[q]?.getD undef = .pointer (some ⟨b, 0, none⟩) := by simpa using hq
  simp [results, hr, hp', hq', go_sem, c0, c1]
set_option maxHeartbeats 4000000 in
set_option maxRecDepth 100000 in
theorem parse_err (s : ByteArray) (w : World) (hG : Gl w) (f : Flt) (hT : tokensL s.data.toList = .error f) :
    Calls Tryz.prog 27 #[.string s] w fun e w' => Below w.heap.size w w' ∧ ∃ b, w.heap.size ≤ b ∧ e = .returned (.tuple #[.slice none 0 0, .iface 23 (.pointer (some ⟨b, 0, none⟩))]) ∧ w'.heap[b]? = some (.cells #[.int .i64 f.1, .int .i64 f.2.1, .string ⟨f.2.2.toArray⟩] 61 (0, 0)) := by
  have hmf : ∀ (fn : Fn) (first cap : Array Value) (w : World), (Instr.makeFunc fn first cap).run Tryz.prog w = .ok (.func fn first cap) w := fun _ _ _ _ => rfl
  have c0 := tokens_all s ((w.alloc (.cells #[.slice none 0 0] 22)).alloc (.cells #[.nilIface] 36)) ((hG.below ((Below.refl _ _).alloc (Nat.le_refl _) _)).below ((Below.refl _ _).alloc (Nat.le_refl _) _))
  rw [hT] at c0
  have hA2 : ((w.alloc (.cells #[.slice none 0 0] 22)).alloc (.cells #[.nilIface] 36)).heap[w.heap.size]? = some (.cells #[.slice none 0 0] 22 (0, 0)) := (Below.heap_alloc _ _ _ (by rw [World.size_alloc]; omega)).trans (heap_alloc_new w _)
  have hB2 : ((w.alloc (.cells #[.slice none 0 0] 22)).alloc (.cells #[.nilIface] 36)).heap[w.heap.size + 1]? = some (.cells #[.nilIface] 36 (0, 0)) := by
    have := heap_alloc_new (w.alloc (.cells #[.slice none 0 0] 22)) (.cells #[.nilIface] 36)
    rwa [World.size_alloc] at this
  have hsz : ((w.alloc (.cells #[.slice none 0 0] 22)).alloc (.cells #[.nilIface] 36)).heap.size = w.heap.size + 1 + 1 := by rw [World.size_alloc, World.size_alloc]
  have HF : Hid (∀ w1, Below ((w.alloc (.cells #[.slice none 0 0] 22)).alloc (.cells #[.nilIface] 36)).heap.size ((w.alloc (.cells #[.slice none 0 0] 22)).alloc (.cells #[.nilIface] 36)) w1 → w1.heap[w.heap.size]? = some (.cells #[.slice none 0 0] 22 (0, 0)) ∧ w1.heap[w.heap.size + 1]? = some (.cells #[.nilIface] 36 (0, 0)) ∧ w.heap.size + 1 < w1.heap.size) := fun w1 hb => ⟨(hb.block _ (by rw [hsz]; omega)).trans hA2, (hb.block _ (by rw [hsz]; omega)).trans hB2, by have := hb.size; omega⟩
  clear hG hT hA2 hB2 hsz
  go_enter_defers Tryz.func27, Tryz.ntmps27
  go_wp2_with fail
  refine c0.mono ?_
  clear c0
  rintro e w1 ⟨hb, b, hb1, rfl, hb2⟩
  obtain ⟨ha, hp, hl⟩ := HF.out w1 hb
  have a1 := cell_of_one ha
  have a2 := free_of_one ha
  have e1 := cell_of_one hp
  have e2 := free_of_one hp
  have HB := Lib.hid hb
  have HB2 := Lib.hid hb2
  have HA := Lib.hid ha
  have HP := Lib.hid hp
  clear hb hb2 HF ha hp
  go_wp2_with fail
  go_region
  all_goals go_wp2
  refine ⟨.tuple #[.slice none 0 0, .iface 23 (.pointer (some ⟨b, 0, none⟩))], res_two rfl rfl rfl ?_ ?_, ?_⟩
  · exact cell_of_one (t := 22) ((Below.heap_setCell _ _ _ _ (show w.heap.size ≠ w.heap.size + 1 by omega)).trans (one_setCell ((Below.heap_setCell _ _ _ _ (show w.heap.size ≠ w.heap.size + 1 by omega)).trans HA.out)))
  · exact cell_of_one (t := 36) (one_setCell ((Below.heap_setCell _ _ _ _ (show w.heap.size + 1 ≠ w.heap.size by omega)).trans (one_setCell HP.out)))
  rw [World.size_alloc, World.size_alloc] at hb1
  have hb := HB.out
  have h1 : Below w.heap.size w w1 := (((Below.refl _ _).alloc (Nat.le_refl _) _).alloc (by rw [World.size_alloc]; omega) _).trans (hb.mono (by rw [World.size_alloc, World.size_alloc]; omega))
  refine ⟨(((h1.setCell (p := ⟨w.heap.size + 1, 0, none⟩) (Nat.le_succ _) _).setCell (p := ⟨w.heap.size, 0, none⟩) (Nat.le_refl _) _).setCell (p := ⟨w.heap.size + 1, 0, none⟩) (Nat.le_succ _) _).drew, b, by omega, rfl, ?_⟩
  have h2 : ∀ (x : World) (k : Nat) (v : Value), k < w.heap.size + 1 + 1 → (x.setCell ⟨k, 0, none⟩ v).heap[b]? = x.heap[b]? := fun x k v hk => Below.heap_setCell _ _ _ _ (show b ≠ k by omega)
  show ((((w1.setCell _ _).setCell _ _).setCell _ _).drew).heap[b]? = _
  show (((w1.setCell _ _).setCell _ _).setCell _ _).heap[b]? = _
  rw [h2 _ _ _ (by omega), h2 _ _ _ (by omega), h2 _ _ _ (by omega)]
  exact HB2.out
end Go.Proofs.YtpbkeamjdolpgaaGreatDoor
