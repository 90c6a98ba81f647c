/- The walk of the parser's blocks. Expressions and statements of any depth. The closure at tree.Parse's door; what stands at the head of its loop. -/
import Derived.Test.YtpbkeamjdolpgaaGreatDoorB14
import Derived.RegionDies
import Derived.Deep.RegionLaw
import Derived.Test.YtpbkeamjdolpgaaGreatDoorB13
import Derived.Test.YtpbkeamjdolpgaaGreatDoorB15
import Derived.Test.YtpbkeamjdolpgaaGreatDoorB03
import Derived.Test.YtpbkeamjdolpgaaGreatDoorB04
import Derived.Defers
import Derived.Recover
import Derived.OneCell
import Derived.Laws.Pointers
namespace Go.Proofs.YtpbkeamjdolpgaaGreatDoor
open Go.RowKit Go.Lib Go.Shelf

theorem blockL_step {ts : List Tk} {st : Nat → Res Nd} {g : Nat} {acc : List Nd} {q : Nat} (hB : isT ts q [125] = false) : blockL ts st (g + 1) acc q = (st q).bind fun x r => blockL ts st g (acc ++ [x]) r := by
  show (if isT ts q [125] = true then _ else _) = _
  rw [hB]; rfl
theorem blockL_end {ts : List Tk} {st : Nat → Res Nd} {g : Nat} {acc : List Nd} {q : Nat} (hB : isT ts q [125] = true) : blockL ts st (g + 1) acc q = .ok acc (q + 1) := by
  show (if isT ts q [125] = true then _ else _) = _
  rw [if_pos hB]

set_option maxHeartbeats 16000000 in
set_option maxRecDepth 100000 in
theorem block_any (C : Ctx) (st : Nat → Res Nd) (hst : OneT C 60 st) (f : Nat) (hf : f ≤ 8192) : OneT C 107 (blockO C.ts C.s.size st f) := by
  intro w p h _ hne
  have hpb := h.lt
  obtain ⟨pl, hpl⟩ : ∃ pl, placeT C.ts C.s.size p = pl := ⟨_, rfl⟩
  have hA : Ow C.pb w (w.alloc zNode) := (Ow.refl _ _).alloc _
  have hsA : PSt C (w.alloc zNode) p := h.below ((Below.refl _ _).alloc (Nat.le_refl _) _)
  have hne0 : w.heap.size ≠ C.pb := by omega
  have H0 := Lib.hid h
  obtain ⟨i0, hi0, hz0, hz1, hz2⟩ := info_parts Tryz.infoNode
  have HA := Lib.hid hA
  obtain ⟨R, hR⟩ : ∃ R, blockO C.ts C.s.size st f p = R := ⟨_, rfl⟩
  rw [hR] at hne ⊢
  have hR2 := hR.symm
  unfold blockO at hR2
  have HR := Lib.hid hR2
  have hZ : Box4 (w.alloc zNode) w.heap.size (.int .i64 0) (.string ⟨#[]⟩) (.slice none 0 0) (.int .i64 0) := Box4.new w _ _ _ _
  have c0 := take_x C p [123] _ hsA _ (fun w1 ho => hZ.x ho hne0)
  rw [hpl] at c0
  have HNE := Lib.hid hne
  have HST := Lib.hid hst
  have HPL := Lib.hid hpl
  clear hR hR2 hne h hsA hst hZ hA hpl
  go_enter Tryz.func107, Tryz.ntmps107
  go_wp2_with fail
  refine c0.mono ?_
  clear c0
  rintro e w1 (⟨q, hr, rfl, hs1, ho1, ⟨z0, z1, z2, z3, zf⟩, HZ⟩ | ⟨hr, b, hd1, rfl, hd3, hd4⟩)
  · have hm := Mid.start H0.out ho1 hs1 0 pl
    have HM := Lib.hid hm
    have hR3 := HR.out
    rw [hr] at hR3
    have hR4 : R = (blockL C.ts st f [] q).bind fun l r => .ok (.mk 0 [] l pl) r := hR3
    have HR4 := Lib.hid hR4
    clear z0 z1 z2 z3 zf HZ hm hs1 ho1 HA hR3 hR4 hr HR
    generalize hbn : w1.heap.size = bn at *
    go_wp2_with fail
    go_loopg [] f (fun g wx => ∃ (acc : List Nd) (q : Nat) (va : Option Addr) (m vc : Nat), Mid C w bn 0 [] (.slice va m vc) acc pl q wx ∧ Hid (R = (blockL C.ts st g acc q).bind fun l r => .ok (.mk 0 [] l pl) r) ∧ acc.length + g ≤ f)
    case atStart => exact ⟨[], q, none, 0, 0, HM.out, HR4, by simp⟩
    case round =>
      clear HM HR4
      obtain ⟨acc, q, va, m, vc, hm, hS, hlen⟩ := hrel
      obtain ⟨g', rfl⟩ : ∃ g', gk = g' + 1 := by
        cases gk with
        | zero => exact absurd hS.out HNE.out
        | succ g' => exact ⟨g', rfl⟩
      have hm0 : acc.length = m := by
        obtain ⟨_, _, hv, _⟩ := hm.row
        cases hv
        rfl
      have HM := Lib.hid hm
      obtain ⟨⟨n0, n1, n2, n3, nf⟩, z0, z1, z2, z3, zf⟩ := hm.facts
      have c1 := is_b hm [125]
      clear hm
      go_wp2_with fail
      refine c1.mono ?_
      clear c1 HM n0 n1 n2 n3 nf z0 z1 z2 z3 zf
      rintro e w3 (⟨rfl, hB, hm⟩ | ⟨rfl, hB, hm⟩)
      · have hR := hS.out
        rw [blockL_end hB] at hR
        have hR2 : R = (takeP C.ts C.s.size [125] q).bind fun _ e => .ok (.mk 0 [] acc pl) e := by rw [hR]; unfold takeP; rw [if_pos hB]; rfl
        have c2 := take_m hm hR2
        clear hS hR hR2 hB hm
        go_wp2_with fail
        refine c2.mono ?_
        clear c2
        rintro e w4 (⟨q', rfl, hr, hm⟩ | ⟨hr, b, hd1, rfl, hd3, hd4⟩)
        · have HR := Lib.hid hr
          have HM := Lib.hid hm
          obtain ⟨⟨n0, n1, n2, n3, nf⟩, z0, z1, z2, z3, zf⟩ := hm.facts
          clear hr hm
          go_wp2_with fail
          exact ret_node rfl rfl rfl (by simp [go_sem, z0]) (by simp [go_sem, z1]) (by simp [go_sem, z2]) (by simp [go_sem, z3]) (HM.out.done4 HR.out)
        · exact ⟨rfl, .inr ⟨_, hr, b, hd1, rfl, hd3, hd4⟩⟩
      · have hR := hS.out
        rw [blockL_step hB] at hR
        have hal : acc.length ≤ 8192 := by omega
        have hmd := hm.drew
        obtain ⟨_, _, m2, _, mf⟩ := hmd.facts.1
        have hne : st q ≠ .out := fun e => HNE.out (by rw [hR, e]; rfl)
        have c4 := HST.out w3.drew q hmd.2.2.2.1 trivial hne
        have HM := Lib.hid hmd
        clear hS hB hm hmd
        cases hst : st q with
        | out => exact absurd hst hne
        | bad q' =>
          have c5 := node_bad c4 hst
          have hr : R = .bad q' := by rw [hR, hst]; rfl
          have HRB := Lib.hid hr
          clear c4 hne hR hst hr
          go_wp2_with fail
          go_region_dies
          all_goals (
            refine c5.mono ?_
            rintro e w5 ⟨b, hd1, rfl, hd3, hd4⟩
            have ho := HM.out.2.2.2.2.1
            exact ⟨rfl, .inr ⟨_, HRB.out, b, Nat.le_trans ho.size hd1, rfl, hd3, ho.trans hd4⟩⟩)
        | ok nd q' =>
          obtain ⟨k', n', kids, pk⟩ := nd
          have c5 := node_okm HM.out c4 hst
          have hR2 : R = (blockL C.ts st g' (acc ++ [.mk k' n' kids pk]) q').bind fun l r => .ok (.mk 0 [] l pl) r := by rw [hR, hst]; rfl
          have HR := Lib.hid hR2
          clear c4 hne hR hR2 hst HM
          go_wp2_with fail
          go_region_law (first | (go_simp; go_at_call 60; (with_reducible refine c5.mono ?_); rintro e w5 ⟨y, c, rfl, hk, hm⟩; obtain ⟨_, _, b2, _, bf⟩ := hm.facts.1; have b2o := fun o => al_cell b2 o; obtain ⟨hl1, hl2, hl3⟩ := hm.lt; obtain ⟨xs, hown, hfl⟩ := hm.2.1; rw [hm0] at hown; have HOWN := Lib.hid (hown.alloc (.cells #[.int .i64 k', .string ⟨n'.toArray⟩, .slice y kids.length c, .int .i64 pk] 53)); have HLT := Lib.hid hown.lt; have HCZ := Lib.hid (cell_four_new w5 (.int .i64 k') (.string ⟨n'.toArray⟩) (.slice y kids.length c) (.int .i64 pk) 53); have hz5 : (w5.alloc (.cells #[.int .i64 k', .string ⟨n'.toArray⟩, .slice y kids.length c, .int .i64 pk] 53)).heap.size = w5.heap.size + 1 := World.size_alloc _ _; have HB1 := Lib.hid (hm.1.alloc (.cells #[.int .i64 k', .string ⟨n'.toArray⟩, .slice y kids.length c, .int .i64 pk] 53)); have HBN : Hid (some bn ≠ (Value.slice va m vc).ownBlock) := (fun e => by have := hown.lt bn e.symm; omega); have HFL := Lib.hid hfl; have HM := Lib.hid hm; have HK := Lib.hid hk; clear hm hk hown hfl) | (refine step_append_lies _ rfl (.tmp 11) (.tmp 14) 22 rfl (bn + 1) 53 i0 (.agg #[.int .i64 0, .string ⟨#[]⟩, .slice none 0 0, .int .i64 0]) 4 56 Tryz.underlying22 hi0 hz0 hz1 hz2 rfl (by decide) (.slice va m vc) m xs (by simp [Act.eval]) HOWN.out ⟨w5.heap.size, 0, none⟩ 1 1 [.int .i64 k', .string ⟨n'.toArray⟩, .slice y kids.length c, .int .i64 pk] (by simp [Act.eval]) rfl HCZ.out (fun x hx => by simp at hx; rcases hx with rfl | rfl | rfl | rfl <;> rfl) (by omega) (by unfold maxLen; omega) (by omega) (by omega) _ rfl ?_; intro g cap w6 hown' hgrow hat hlt; obtain ⟨_, _, d2, _, df⟩ := (keep_far HB1.out hgrow HBN.out).facts; have HO := Lib.hid hown'; have HG := Lib.hid hgrow; clear hown' hgrow))
          all_goals (
            have hpush := HM.out.push hm0 HK.out HFL.out HLT.out ((Below.refl _ _).alloc (Nat.le_refl _) _) HO.out HG.out hat
            clear d2 df b2 b2o bf HB1 HBN HOWN HCZ m2 mf c5
            go_wp2_with fail
            go_roundg g'
            case measure => omega
            case rel => exact ⟨_, q', _, _, _, hpush, HR, by simp; omega⟩)
  · refine ⟨rfl, .inr ⟨p, ?_, b, Nat.le_trans HA.out.size hd1, rfl, hd3, HA.out.trans hd4⟩⟩
    rw [HR.out, hr]
    rfl
end Go.Proofs.YtpbkeamjdolpgaaGreatDoor
namespace Go.Proofs.YtpbkeamjdolpgaaGreatDoor
open Go.RowKit Go.Lib Go.Shelf

theorem exprP_any (C : Ctx) : ∀ f : Nat, f ≤ 8192 → OneT C 109 (exprP C.ts C.s.size f)
  | 0, _ => fun _ _ _ _ hne => absurd rfl hne
  | f + 1, hf => expr_any C (exprP C.ts C.s.size f) (exprP_any C f (by omega)) f (by omega)
theorem stmtP_any (C : Ctx) (F : Nat) (hF : F ≤ 8192) : ∀ f : Nat, OneT C 60 (stmtP C.ts C.s.size F f)
  | 0 => fun _ _ _ _ hne => absurd rfl hne
  | f + 1 => stmt_any C (exprP C.ts C.s.size F) (stmtP C.ts C.s.size F f) (exprP_any C F hF) F hF (block_any C (stmtP C.ts C.s.size F f) (stmtP_any C F hF f) F hF)
end Go.Proofs.YtpbkeamjdolpgaaGreatDoor
namespace Go.Proofs.YtpbkeamjdolpgaaGreatDoor
open Go.RowKit Go.Lib Go.Shelf

theorem Tryz.isFaultE (v : Value) (w : World) : (Instr.typeAssert (.iface 23 v) 20 23 true).run Tryz.prog w = .ok (.tuple #[v, .bool true]) w := by kernel_rfl
/-- What is known at the door's end. -/
def DoorQ (w0 : World) (e : Exit) (a : Act) (w : World) : Prop := e = .normal ∧ a.defers = [] ∧ w = w0
/-! The closure that waits at Parse's door, for a frame that panics with a fault. -/
set_option maxHeartbeats 400000 in
set_option maxRecDepth 100000 in
theorem door_dies (pa pe : Nat) (v0 v1 : Value) (b : Nat) (w : World) (hc : w.cell? ⟨pa, 0, none⟩ = some v0) (hz : w.frozen? ⟨pa, 0, none⟩ = false) (hc1 : w.cell? ⟨pe, 0, none⟩ = some v1) (hz1 : w.frozen? ⟨pe, 0, none⟩ = false) (hne : pe ≠ pa) :
    CallsD Tryz.prog 59 #[.pointer (some ⟨pa, 0, none⟩), .pointer (some ⟨pe, 0, none⟩)] (.panicking ({ v := .iface 23 (.pointer (some ⟨b, 0, none⟩)), recovered := false } :: [])) w fun e u' w' =>
      e = .returned (.tuple #[]) ∧ u' = .panicking ({ v := .iface 23 (.pointer (some ⟨b, 0, none⟩)), recovered := true } :: []) ∧ w' = (w.setCell ⟨pa, 0, none⟩ (.slice none 0 0)).setCell ⟨pe, 0, none⟩ (.iface 23 (.pointer (some ⟨b, 0, none⟩))) := by
  have hc2 : (w.setCell ⟨pa, 0, none⟩ (.slice none 0 0)).cell? ⟨pe, 0, none⟩ = some v1 := (World.cell?_of_block (Below.heap_setCell w _ _ _ hne)).trans hc1
  have hz2 : (w.setCell ⟨pa, 0, none⟩ (.slice none 0 0)).frozen? ⟨pe, 0, none⟩ = false := (World.frozen?_of_block (Below.heap_setCell w _ _ _ hne)).trans hz1
  clear hne
  refine callsD_of_wpS Tryz.func59 rfl fun c₀ cs hu => ?_
  apply wpS_seq
  apply wpS_region
  simp [wpOpsS, go_sem, recoverD, hu, Tryz.ntmps59, Exit.thenS]
  have hTA := Tryz.isFaultE
  refine wpS_of_wp ?_
  clear hu
  refine Code.wp_mono (Q := DoorQ ((w.setCell ⟨pa, 0, none⟩ (.slice none 0 0)).setCell ⟨pe, 0, none⟩ (.iface 23 (.pointer (some ⟨b, 0, none⟩))))) ?_ ?_
  · rintro e a' w' ⟨rfl, hd, rfl⟩
    exact ⟨hd, _, rfl, .tuple #[], by simp [results, Tryz.results59], rfl, rfl, rfl⟩
  · clear cs c₀
    have e : (#[Value.pointer (some ⟨pa, 0, none⟩), Value.pointer (some ⟨pe, 0, none⟩)] ++ ((Array.replicate 16 undef).setIfInBounds 3 (Value.iface 23 (Value.pointer (some ⟨b, 0, none⟩)))).setIfInBounds 0 (Value.iface 23 (Value.pointer (some ⟨b, 0, none⟩))) : Array Value) =
      #[Value.pointer (some ⟨pa, 0, none⟩), Value.pointer (some ⟨pe, 0, none⟩), Value.iface 23 (Value.pointer (some ⟨b, 0, none⟩)), undef, undef, Value.iface 23 (Value.pointer (some ⟨b, 0, none⟩)), undef, undef, undef, undef, undef, undef, undef, undef, undef, undef, undef, undef] := rfl
    rw [e]
    clear e
    go_wp2_with fail
    exact ⟨rfl, rfl, rfl⟩
theorem door_idle (pa pe : Nat) (w : World) :
    CallsD Tryz.prog 59 #[.pointer (some ⟨pa, 0, none⟩), .pointer (some ⟨pe, 0, none⟩)] .returning w fun e u' w' => e = .returned (.tuple #[]) ∧ u' = .returning ∧ w' = w := by
  refine callsD_of_wpS Tryz.func59 rfl fun c₀ cs hu => ?_
  apply wpS_seq
  apply wpS_region
  simp [wpOpsS, go_sem, recoverD, hu, Tryz.ntmps59, Exit.thenS]
  refine wpS_of_wp ?_
  refine Code.wp_mono (Q := DoorQ w) ?_ ?_
  · rintro e a' w' ⟨rfl, hd, rfl⟩
    refine ⟨hd, .returning, ?_, .tuple #[], by simp [results, Tryz.results59], rfl, rfl, rfl⟩
    cases c₀
    simp_all
  · clear hu cs c₀
    have e : (#[Value.pointer (some ⟨pa, 0, none⟩), Value.pointer (some ⟨pe, 0, none⟩)] ++ ((Array.replicate 16 undef).setIfInBounds 3 Value.nilIface).setIfInBounds 0 Value.nilIface : Array Value) =
      #[Value.pointer (some ⟨pa, 0, none⟩), Value.pointer (some ⟨pe, 0, none⟩), Value.nilIface, undef, undef, Value.nilIface, undef, undef, undef, undef, undef, undef, undef, undef, undef, undef, undef, undef] := rfl
    rw [e]
    clear e
    go_wp2_with fail
    exact ⟨rfl, rfl, rfl⟩
end Go.Proofs.YtpbkeamjdolpgaaGreatDoor
