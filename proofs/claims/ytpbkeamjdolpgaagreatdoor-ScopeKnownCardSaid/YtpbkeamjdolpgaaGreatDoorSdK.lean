/- The walk of ScopeKnown. -/
import Derived.Test.YtpbkeamjdolpgaaGreatDoorSdB
import Derived.Test.YtpbkeamjdolpgaaGreatDoorSdC
import Derived.Deep.RegionHeld3
namespace Go.Proofs.YtpbkeamjdolpgaaGreatDoor
open Go.RowKit Go.Lib

/-- Numbers in a row of their own. -/
def IRow (w : World) (g : Nat) (t : TypeId) (l : List Int) : Prop := w.heap[g]? = some (.cells (l.map fun i => Value.int .i64 i).toArray t (0, 0))
theorem IRow.at_ {w : World} {g : Nat} {t : TypeId} {l : List Int} (h : IRow w g t l) {i : Nat} {x : Int} (hx : l[i]? = some x) : w.cell? ⟨g, i, none⟩ = some (.int .i64 x) := by
  unfold IRow at h
  simp [World.cell?, h, hx]
theorem SRow.below {w w' : World} {g : Nat} {l : List (List UInt8)} (h : SRow w g l) (hb : Below w.heap.size w w') : SRow w' g l := (hb.block g (Array.getElem?_eq_some_iff.1 h).1).trans h
theorem IRow.below {w w' : World} {g : Nat} {t : TypeId} {l : List Int} (h : IRow w g t l) (hb : Below w.heap.size w w') : IRow w' g t l := (hb.block g (Array.getElem?_eq_some_iff.1 h).1).trans h
def SkR (w : World) (g : Nat) : Prop := SRow w g skT ∧ IRow w (g + 1) 30 skC ∧ IRow w (g + 1 + 1) 3 skP ∧ SRow w (g + 1 + 1 + 1) skW
theorem SkR.below {w w' : World} {g : Nat} (h : SkR w g) (hb : Below w.heap.size w w') : SkR w' g := ⟨h.1.below hb, h.2.1.below hb, h.2.2.1.below hb, h.2.2.2.below hb⟩
theorem own_lit (w : World) (l : List (List UInt8)) (hl : l.length ≤ maxLen) : (w.alloc (.cells (l.map encStr).toArray 9)).ownsRow w.heap.size 9 1 (.slice (some ⟨w.heap.size, 0, none⟩) l.length l.length) l.length (l.map encStr) :=
  ⟨by simp, .inr ⟨w.heap.size, l.length, _, rfl, Nat.le_refl _, heap_alloc_new w _, Nat.le_refl _, hl, by simp, by rw [List.take_of_length_le (by simp)]⟩⟩
theorem sc_code {l : List Nd} {c : Int} (h1 : checkR l = c) (h0 : c ≠ 0) {w w' : World} {e : Ending} (h : ScEnd l w e w') : e = .returned (.iface 30 (.int .i64 c)) ∧ Below w.heap.size w w' := by
  obtain ⟨hb, (⟨-, h2⟩ | ⟨h2, -⟩ | ⟨h2, -⟩)⟩ := h
  · rw [h1] at h2
    exact ⟨h2, hb⟩
  · exact absurd (h1 ▸ h2) h0
  · exact absurd (h1 ▸ h2) h0
theorem sc_hit {l : List Nd} {c p : Int} {n : List UInt8} (h1 : checkR l = 0) (h2 : wrongE (evX l) = some (c, n, p)) {w w' : World} {e : Ending} (h : ScEnd l w e w') :
    ∃ b, e = .returned (.iface 23 (.pointer (some ⟨b, 0, none⟩))) ∧ w.heap.size ≤ b ∧ w'.heap[b]? = some (.cells #[.int .i64 c, .int .i64 p, .string ⟨n.toArray⟩] 61 (0, 0)) ∧ Below w.heap.size w w' := by
  obtain ⟨hb, (⟨h0, -⟩ | ⟨-, h0, -⟩ | ⟨-, c', n', p', b, h3, h4, h5, h6⟩)⟩ := h
  · exact absurd h1 h0
  · rw [h2] at h0
    cases h0
  · rw [h2] at h3
    cases h3
    exact ⟨b, h5, h4, h6, hb⟩
theorem sc_ok {l : List Nd} (h1 : checkR l = 0) (h2 : wrongE (evX l) = none) {w w' : World} {e : Ending} (h : ScEnd l w e w') : e = .returned .nilIface ∧ Below w.heap.size w w' := by
  obtain ⟨hb, (⟨h0, -⟩ | ⟨-, -, h0⟩ | ⟨-, c', n', p', b, h3, -⟩)⟩ := h
  · exact absurd h1 h0
  · exact ⟨h0, hb⟩
  · rw [h2] at h3
    cases h3
set_option maxHeartbeats 4000000 in
set_option maxRecDepth 100000 in
theorem scopeKnown_any (w : World) (hG : Gl w ∧ GlE w) : Calls Tryz.prog 12 #[] w fun e w' => e = .returned (.bool true) ∧ Below w.heap.size w w' := by
  have HG := Lib.hid hG.1
  have HE := Lib.hid hG.2
  clear hG
  go_enter Tryz.func12, Tryz.ntmps12
  go_wp2_with fail
  go_loopg [5] 23 (fun g v wx => ∃ i : Nat, v = .int .i64 i ∧ i + g = 23 ∧ SkR wx w.heap.size ∧ Below w.heap.size w wx)
  case atStart =>
    refine ⟨0, rfl, by omega, ⟨(heap4 w _ _ _ _).1, (heap4 w _ _ _ _).2.1, (heap4 w _ _ _ _).2.2.1, (heap4 w _ _ _ _).2.2.2⟩, ?_⟩
    exact ((((Below.refl _ _).alloc (Nat.le_refl _) _).alloc (by simp) _).alloc (by simp; omega) _).alloc (by simp; omega) _
  case round =>
    obtain ⟨i, rfl, hi, hR, hb⟩ := hrel
    by_cases hlt : i < 23
    · obtain ⟨t, c, p, n, l, i1, i2, i3, i4, hp, hw⟩ := sk_at i hlt
      have hc1 := hR.1.at_ i1
      have hlt' : (i : Int) < 23 := by omega
      have Qi1 : IntKind.i64.wrap ((i : Int) + 1) = (i : Int) + 1 := IntWalk.i64_in _ (by omega)
      have c0 := parse_any ⟨t.toArray⟩ wr (HG.out.below hb)
      rw [show (⟨t.toArray⟩ : ByteArray).data.toList = t by simp, hp] at c0
      have HR := Lib.hid hR
      have HB := Lib.hid hb
      have HI := Lib.hid (⟨i2, i3, i4⟩ : _ ∧ _ ∧ _)
      have HP := Lib.hid hp
      have HW := Lib.hid hw
      clear hR hb i1 i2 i3 i4 hp hw
      go_wp2_with fail
      refine c0.mono ?_
      clear c0
      rintro e w5 ⟨hb5, y, cy, rfl, hrow, -⟩
      have HB5 := Lib.hid (HB.out.trans (hb5.mono HB.out.size))
      have HR5 := Lib.hid (HR.out.below hb5)
      obtain ⟨k1, k2, -⟩ := again_law HP.out
      have HCK : Hid (∀ W, Below w5.heap.size w5 W → Calls Tryz.prog 37 #[.slice y l.length cy] W fun e w' => ∃ b, e = .returned (.iface 23 (.pointer (some ⟨b, 0, none⟩))) ∧ W.heap.size ≤ b ∧ w'.heap[b]? = some (.cells #[.int .i64 c, .int .i64 p, .string ⟨n.toArray⟩] 61 (0, 0)) ∧ Below W.heap.size W w') := Lib.hid fun W hb =>
        (scheck_any l (by omega) _ y cy W (HG.out.below (HB5.out.trans (hb.mono HB5.out.size))) ((hrow.wide (ok' := fun k => k < w5.heap.size) fun k _ hk => hk).below hb) (fun b hb' => Nat.lt_of_lt_of_le hb' hb.size)).mono fun _ _ h => sc_hit k1 HW.out h
      have HT : Hid (∀ (W : World) (b b2 : Nat), Below w5.heap.size w5 W → W.heap[b]? = some (.cells #[.int .i64 c, .int .i64 p, .string ⟨n.toArray⟩] 61 (0, 0)) → W.heap[b2]? = some (.cells #[.int .i64 c, .int .i64 p, .string ⟨n.toArray⟩] 61 (0, 0)) →
          Calls Tryz.prog 39 #[.iface 23 (.pointer (some ⟨b, 0, none⟩)), .pointer (some ⟨b2, 0, none⟩)] W fun e w' => e = .returned (.bool true) ∧ Below W.heap.size W w') := Lib.hid fun W b b2 hb h1 h2 => stold_hit c p ⟨n.toArray⟩ b b2 W (HE.out.below (HB5.out.trans (hb.mono HB5.out.size))) h1 h2
      have HS : Hid (∀ w', Below w5.heap.size w5 w' → w'.cell? ⟨w.heap.size + 1, i, none⟩ = some (.int .i64 c) ∧ w'.cell? ⟨w.heap.size + 1 + 1, i, none⟩ = some (.int .i64 p) ∧ w'.cell? ⟨w.heap.size + 1 + 1 + 1, i, none⟩ = some (.string ⟨n.toArray⟩)) := Lib.hid fun w' hb =>
        have h := HR5.out.below hb
        ⟨h.2.1.at_ HI.out.1, h.2.2.1.at_ HI.out.2.1, h.2.2.2.at_ HI.out.2.2⟩
      obtain ⟨nl, hnl⟩ : ∃ m, l.length = m := ⟨_, rfl⟩
      rw [hnl] at HCK ⊢
      clear hb5 hrow k1 k2 HR HB hnl hc1 HI HP HW
      have HD : Hid (Below w5.heap.size w5 w5.drew) := Lib.hid (Below.refl _ _).drew
      have HDA : Hid (∀ o, Below w5.heap.size w5 (w5.alloc o).drew) := Lib.hid fun o => ((Below.refl _ _).alloc (Nat.le_refl _) _).drew
      have HZ : Hid (∀ o, (w5.alloc o).drew.heap[w5.heap.size]? = some o ∧ w5.heap.size < (w5.alloc o).drew.heap.size ∧ w5.heap.size ≤ (w5.alloc o).drew.heap.size) := Lib.hid fun o => ⟨heap_alloc_new w5 o, by simp, by simp⟩
      go_wp2_with fail
      go_region_held3 (fun w' => w'.cell? ⟨w.heap.size + 1, i, none⟩ = some (.int .i64 c) ∧ w'.cell? ⟨w.heap.size + 1 + 1, i, none⟩ = some (.int .i64 p) ∧ w'.cell? ⟨w.heap.size + 1 + 1 + 1, i, none⟩ = some (.string ⟨n.toArray⟩))
        (first | with_reducible exact HS.out _ HD.out | with_reducible exact HS.out _ (HDA.out _) | with_reducible exact HS.out _ hb6 | with_reducible exact HS.out _ (hb6a _) | with_reducible exact HS.out _ hbz)
        (first
          | (go_at_call 37; (with_reducible refine (HCK.out _ HD.out).mono ?_); rintro e w6 ⟨b, rfl, hbb, h6, hbw6⟩; have hb6 : Below w5.heap.size w5 w6 := HD.out.trans hbw6; have hb6a := fun o => hb6.alloc hb6.size o; have hbl := (Array.getElem?_eq_some_iff.1 h6).1)
          | (go_at_call 37; (with_reducible refine (HCK.out _ (HDA.out _)).mono ?_); rintro e w6 ⟨b, rfl, hbb, h6, hbw6⟩; have hb6 : Below w5.heap.size w5 w6 := (HDA.out _).trans (hbw6.mono (HZ.out _).2.2); have hf6 := (hbw6.block w5.heap.size (HZ.out _).2.1).trans (HZ.out _).1)
          | (go_at_call 39; (with_reducible refine (HT.out _ _ _ (hb6a _) ((Below.heap_alloc _ _ _ hbl).trans h6) (heap_alloc_new w6 _)).mono ?_); rintro e w7 ⟨rfl, hb7⟩; have hbz := (hb6a _).trans (hb7.mono (hb6a _).size))
          | (go_at_call 39; (with_reducible refine (HT.out _ _ _ hb6 h6 hf6).mono ?_); rintro e w7 ⟨rfl, hb7⟩; have hbz := hb6.trans (hb7.mono hb6.size)))
      all_goals (
        have HBZ := Lib.hid (HB5.out.trans (hbz.mono HB5.out.size))
        have HRZ := Lib.hid (HR5.out.below hbz)
        clear hbz
        go_wp2_with fail
        go_roundg (gk - 1)
        case measure => omega
        case rel => exact ⟨i + 1, rfl, by omega, HRZ.out, HBZ.out⟩)
    · have hlt' : ¬ (i : Int) < 23 := by omega
      have HB := Lib.hid hb
      clear hR hb hlt hi
      go_wp2_with fail
      have hz := World.size_alloc wr (.cells (skR.map fun s => Value.string ⟨s.toArray⟩).toArray 9)
      have hR0 : SRow (wr.alloc (.cells (skR.map fun s => Value.string ⟨s.toArray⟩).toArray 9)) wr.heap.size skR := heap_alloc_new wr _
      have hB0 : Below w.heap.size w (wr.alloc (.cells (skR.map fun s => Value.string ⟨s.toArray⟩).toArray 9)) := HB.out.alloc HB.out.size _
      have HR0 := Lib.hid hR0
      have HB0 := Lib.hid hB0
      clear hz hR0 hB0
      obtain ⟨gR, hgR⟩ : ∃ g, wr.heap.size = g := ⟨_, rfl⟩
      rw [hgR] at HR0 ⊢
      clear hgR
      go_loopg [9] 8 (fun g v wx => ∃ i : Nat, v = .int .i64 i ∧ i + g = 8 ∧ SRow wx gR skR ∧ Below w.heap.size w wx)
      case atStart => exact ⟨0, rfl, by omega, HR0.out, HB0.out⟩
      case round =>
        clear HR0 HB0 HB
        obtain ⟨j, rfl, hj, hR, hb⟩ := hrel
        by_cases hlt : j < 8
        · obtain ⟨t, l, i1, hp, hw⟩ := sk_atR j hlt
          have hc1 := hR.at_ i1
          have hlt' : (j : Int) < 8 := by omega
          have Qi1 : IntKind.i64.wrap ((j : Int) + 1) = (j : Int) + 1 := IntWalk.i64_in _ (by omega)
          have c0 := parse_any ⟨t.toArray⟩ wr (HG.out.below hb)
          rw [show (⟨t.toArray⟩ : ByteArray).data.toList = t by simp, hp] at c0
          have HR := Lib.hid hR
          have HB := Lib.hid hb
          have HP := Lib.hid hp
          have HW := Lib.hid hw
          clear hR hb i1 hp hw
          go_wp2_with fail
          refine c0.mono ?_
          clear c0
          rintro e w5 ⟨hb5, y, cy, rfl, hrow, -⟩
          have HB5 := Lib.hid (HB.out.trans (hb5.mono HB.out.size))
          have HR5 := Lib.hid (HR.out.below hb5)
          obtain ⟨k1, k2, -⟩ := again_law HP.out
          have HRW := Lib.hid (hrow.wide (ok' := fun k => k < w5.heap.size) fun k _ hk => hk)
          have cC := scheck_any l (by omega) _ y cy w5 (HG.out.below HB5.out) HRW.out (fun _ h => h)
          have HC := Lib.hid k1
          have HWT := Lib.hid k2
          obtain ⟨nl, hnl⟩ : ∃ m, l.length = m := ⟨_, rfl⟩
          have HN := Lib.hid hnl
          rw [hnl] at cC ⊢
          clear hb5 hrow k1 k2 HR HB hnl hc1 HP
          go_wp2_with fail
          refine cC.mono ?_
          clear cC
          intro e w6 hend
          obtain ⟨rfl, hb6⟩ := sc_ok HC.out HW.out hend
          have HB6 := Lib.hid (HB5.out.trans (hb6.mono HB5.out.size))
          have HR6 := Lib.hid (HR5.out.below hb6)
          have cF := sfree_any l (by have := HWT.out; omega) _ y cy w6 (HG.out.below HB6.out) (HRW.out.below hb6) (fun b hb => Nat.lt_of_lt_of_le hb hb6.size)
          have hfr : sfreeR l = [] := by
            unfold sfreeR
            rw [wrongE_none HW.out]
            split <;> rfl
          rw [hfr, HN.out] at cF
          clear hend hb6 hfr
          go_wp2_with fail
          refine cF.mono ?_
          clear cF
          rintro e w7 ⟨v, rfl, hown, hb7⟩
          obtain ⟨a, ca, rfl, -⟩ := names_at hown
          have HB7 := Lib.hid (HB6.out.trans (hb7.mono HB6.out.size))
          have HR7 := Lib.hid (HR6.out.below hb7)
          clear hown hb7
          go_wp2_with fail
          go_roundg (gk - 1)
          case measure => omega
          case rel => exact ⟨j + 1, rfl, by omega, HR7.out, HB7.out⟩
        · have hlt' : ¬ (j : Int) < 8 := by omega
          obtain ⟨l, hp, hf, hcl⟩ := sk_x
          have c0 := parse_any ⟨skX.toArray⟩ wr (HG.out.below hb)
          rw [show (⟨skX.toArray⟩ : ByteArray).data.toList = skX by simp, hp] at c0
          unfold skX at c0
          have HB := Lib.hid hb
          have HP := Lib.hid hp
          have HF := Lib.hid hf
          have HCL := Lib.hid hcl
          clear hR hb hlt hj hp hf hcl
          go_wp2_with fail
          refine c0.mono ?_
          clear c0
          rintro e w5 ⟨hb5, y, cy, rfl, hrow, -⟩
          have HB5 := Lib.hid (HB.out.trans (hb5.mono HB.out.size))
          obtain ⟨k1, k2, -⟩ := again_law HP.out
          have HRW := Lib.hid (hrow.wide (ok' := fun k => k < w5.heap.size) fun k _ hk => hk)
          have cF := sfree_any l (by omega) _ y cy w5 (HG.out.below HB5.out) HRW.out (fun _ h => h)
          rw [HF.out] at cF
          have HWT := Lib.hid k2
          obtain ⟨nl, hnl⟩ : ∃ m, l.length = m := ⟨_, rfl⟩
          have HN := Lib.hid hnl
          rw [hnl] at cF ⊢
          clear hb5 hrow k1 k2 HB hnl HP
          go_wp2_with fail
          refine cF.mono ?_
          clear cF
          rintro e w6 ⟨vf, rfl, hownf, hb6⟩
          have HB6 := Lib.hid (HB5.out.trans (hb6.mono HB5.out.size))
          have HRW6 := Lib.hid ((HRW.out.below hb6).wide (ok' := fun k => k < w6.heap.size) fun k hk _ => Nat.lt_of_lt_of_le hk hb6.size)
          have hA6 : Below w6.heap.size w6 (w6.alloc (.cells (([[98], [99], [100], [101]] : List (List UInt8)).map encStr).toArray 9)) := (Below.refl _ _).alloc (Nat.le_refl _) _
          have cs := ssame_any [[98], [99], [100], [101]] [[98], [99], [100], [101]] (by decide) _ _ vf _ _ (own_below hownf hA6) (own_lit w6 [[98], [99], [100], [101]] (by decide))
          rw [decide_eq_true rfl] at cs
          have HA6 := Lib.hid hA6
          clear hownf hb6 hA6 HRW
          go_wp2_with fail
          refine cs.mono ?_
          clear cs
          rintro e w7 ⟨rfl, hb7⟩
          have hb67 := HA6.out.trans (hb7.mono HA6.out.size)
          have HB7 := Lib.hid (HB6.out.trans (hb67.mono HB6.out.size))
          have HRW7 := Lib.hid ((HRW6.out.below hb67).wide (ok' := fun k => k < w7.heap.size) fun k hk _ => Nat.lt_of_lt_of_le hk hb67.size)
          have cC := scall_any l (by have := HWT.out; omega) _ y cy w7 (HG.out.below HB7.out) HRW7.out (fun _ h => h)
          rw [HCL.out, HN.out] at cC
          clear hb7 hb67 HA6 HRW6
          go_wp2_with fail
          refine cC.mono ?_
          clear cC
          rintro e w8 ⟨vc, rfl, hownc, hb8⟩
          have HB8 := Lib.hid (HB7.out.trans (hb8.mono HB7.out.size))
          have hA8 : Below w8.heap.size w8 (w8.alloc (.cells (([[99], [101]] : List (List UInt8)).map encStr).toArray 9)) := (Below.refl _ _).alloc (Nat.le_refl _) _
          have cs := ssame_any [[99], [101]] [[99], [101]] (by decide) _ _ vc _ _ (own_below hownc hA8) (own_lit w8 [[99], [101]] (by decide))
          rw [decide_eq_true rfl] at cs
          have HA8 := Lib.hid hA8
          clear hownc hb8 hA8 HRW7
          go_wp2_with fail
          refine cs.mono ?_
          clear cs
          rintro e w9 ⟨rfl, hb9⟩
          have HB9 := Lib.hid (HB8.out.trans ((HA8.out.trans (hb9.mono HA8.out.size)).mono HB8.out.size))
          clear hb9 HA8
          have hz := World.size_alloc w9 (.cells #[.int .i64 99, .string ⟨#[120]⟩, .slice none 0 0, .int .i64 0] 53)
          have hA9 : Below w9.heap.size w9 (w9.alloc (.cells #[.int .i64 99, .string ⟨#[120]⟩, .slice none 0 0, .int .i64 0] 53)) := (Below.refl _ _).alloc (Nat.le_refl _) _
          have hrb : NdRow (w9.alloc (.cells #[.int .i64 99, .string ⟨#[120]⟩, .slice none 0 0, .int .i64 0] 53)) (fun b => b < w9.heap.size + 1) skB (some ⟨w9.heap.size, 0, none⟩) :=
            NdRow.buildK (ok := fun b => b < w9.heap.size + 1) (Nat.lt_succ_self _) (NFlat.one (NdRow.cells (w := w9) (k := 99) (n := [120]) (kids := []) (p := 0) (y := none) (c := ⟨0, Nat.le_refl _⟩) trivial))
          obtain ⟨gb, hgb⟩ : ∃ g, w9.heap.size = g := ⟨_, rfl⟩
          have HBA := Lib.hid (HB9.out.trans (hA9.mono HB9.out.size))
          rw [hgb] at hrb hz
          obtain ⟨WA, hWA⟩ : ∃ W, w9.alloc (.cells #[.int .i64 99, .string ⟨#[120]⟩, .slice none 0 0, .int .i64 0] 53) = W := ⟨_, rfl⟩
          rw [hWA] at hrb HBA hz
          have HRB := Lib.hid hrb
          have HZ := Lib.hid hz
          have cK := scheck_any skB (by show (2 : Nat) < _; decide) _ _ 1 WA (HG.out.below HBA.out) hrb (fun b hb => by rw [hz]; exact hb)
          clear hrb hA9 hz
          go_wp2_with fail
          clear hWA hgb
          refine cK.mono ?_
          clear cK
          intro e w10 hend
          obtain ⟨rfl, hb10⟩ := sc_code skB_check (by decide) hend
          have HB10 := Lib.hid (HBA.out.trans (hb10.mono HBA.out.size))
          have cI := is_code 290 (by decide) w10
          have HRB10 := Lib.hid ((HRB.out.below hb10).wide (ok' := fun b => b < w10.heap.size) fun b hb _ => by have := HZ.out; have := hb10.size; omega)
          clear hend hb10 HRB HZ
          go_wp2_with fail
          refine cI.mono ?_
          clear cI
          rintro e w11 ⟨rfl, hb11⟩
          have HB11 := Lib.hid (HB10.out.trans (hb11.mono HB10.out.size))
          have HRB11 := Lib.hid ((HRB10.out.below hb11).wide (ok' := fun b => b < w11.heap.size) fun b hb _ => Nat.lt_of_lt_of_le hb hb11.size)
          have cF := sfree_any skB (by show (2 : Nat) < _; decide) _ (some ⟨gb, 0, none⟩) 1 w11 (HG.out.below HB11.out) HRB11.out (fun _ h => h)
          rw [skB_free] at cF
          clear hb11 HRB10
          go_wp2_with fail
          refine cF.mono ?_
          clear cF
          rintro e w12 ⟨v12, rfl, hown12, hb12⟩
          obtain ⟨a12, c12, rfl, -⟩ := names_at hown12
          have HB12 := Lib.hid (HB11.out.trans (hb12.mono HB11.out.size))
          have cC := scall_any skB (by show (2 : Nat) < _; decide) _ (some ⟨gb, 0, none⟩) 1 w12 (HG.out.below HB12.out) (HRB11.out.below hb12) (fun b hb => Nat.lt_of_lt_of_le hb hb12.size)
          rw [skB_call] at cC
          clear hown12 hb12 HRB11
          go_wp2_with fail
          refine cC.mono ?_
          clear cC
          rintro e w13 ⟨v13, rfl, hown13, hb13⟩
          obtain ⟨a13, c13, rfl, -⟩ := names_at hown13
          have HB13 := Lib.hid (HB12.out.trans (hb13.mono HB12.out.size))
          have cw := swakes_any w13 (HG.out.below HB13.out) (HE.out.below HB13.out)
          clear hown13 hb13
          go_wp2_with fail
          refine cw.mono ?_
          clear cw
          rintro e w14 ⟨rfl, hb14⟩
          have HB14 := Lib.hid (HB13.out.trans (hb14.mono HB13.out.size))
          clear hb14
          go_wp2_with fail
          go_ret
          exact ⟨rfl, HB14.out⟩
end Go.Proofs.YtpbkeamjdolpgaaGreatDoor
