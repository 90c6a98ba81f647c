/- The walk of the parser's signs of one and indices. -/
import Derived.Test.YtpbkeamjdolpgaaGreatDoorB09
import Derived.Deep.RegionWith
import Derived.RegionDies
namespace Go.Proofs.YtpbkeamjdolpgaaGreatDoor
open Go.RowKit Go.Lib Go.Shelf

theorem indexL_step {C : Ctx} {ex : Nat → Res Nd} {g q : Nat} {x : Nd} (hB : isT C.ts q [91] = true) : indexL C.ts C.s.size ex (g + 1) x q = (ex (q + 1)).bind fun y r => (takeP C.ts C.s.size [93] r).bind fun _ e => indexL C.ts C.s.size ex g (.mk 14 [] [x, y] (placeT C.ts C.s.size q)) e := by
  rw [indexL, hB]
  rfl
theorem indexL_end {C : Ctx} {ex : Nat → Res Nd} {g q : Nat} {x : Nd} (hB : isT C.ts q [91] = false) : indexL C.ts C.s.size ex (g + 1) x q = .ok x q := by
  rw [indexL, hB]
  rfl
set_option maxHeartbeats 4000000 in
set_option maxRecDepth 100000 in
theorem unary_any (C : Ctx) (ex : Nat → Res Nd) (hx : OneT C 109 ex) (f : Nat) (hf : f ≤ 8192) : ∀ g : Nat, OneT C 162 (unaryL C.ts C.s.size ex f g)
  | 0 => fun w p _ _ hne => absurd rfl hne
  | g + 1 => by
    have ih := unary_any C ex hx f hf g
    intro w p h _ hne
    have F1 := fld1
    have F2 := fld2
    have hpb := h.lt
    obtain ⟨pl, hpl⟩ : ∃ pl, placeT C.ts C.s.size p = pl := ⟨_, rfl⟩
    obtain ⟨tx, htx⟩ : ∃ tx, textT C.ts p = tx := ⟨_, rfl⟩
    have hsz0 := World.size_alloc w zNode
    have hsA : PSt C (w.alloc zNode) p := h.below ((Below.refl _ _).alloc (Nat.le_refl _) _)
    have hne0 : w.heap.size ≠ C.pb := by omega
    have H0 := Lib.hid h
    have HA : Hid (Ow C.pb w (w.alloc zNode)) := Lib.hid ((Ow.refl _ _).alloc _)
    obtain ⟨R, hR⟩ : ∃ R, unaryL C.ts C.s.size ex f (g + 1) p = R := ⟨_, rfl⟩
    have EA : Hid ((isT C.ts p [45] || isT C.ts p [33]) = true → R = (unaryL C.ts C.s.size ex f g (p + 1)).bind fun x q => .ok (.mk 12 tx [x] pl) q) := fun h1 => by rw [← hR, unaryL, h1, htx, hpl]; rfl
    have EB : Hid ((isT C.ts p [45] || isT C.ts p [33]) = false → R = (atomO C.ts C.s.size ex f p).bind fun x q => indexL C.ts C.s.size ex f x q) := fun h1 => by rw [← hR, unaryL, h1]; rfl
    rw [hR] at hne ⊢
    have hZ : Box4 (w.alloc zNode) w.heap.size (.int .i64 0) (.string ⟨#[]⟩) (.slice none 0 0) (.int .i64 0) := Box4.new w _ _ _ _
    have c0 := is_x C p [45] _ hsA _ (fun w1 ho => hZ.x ho hne0)
    have HNE := Lib.hid hne
    have HHX := Lib.hid hx
    have HIH := Lib.hid ih
    have HPL := Lib.hid hpl
    have HTX := Lib.hid htx
    clear hR hne h hsA hx hZ hpl htx ih
    -- the sign stands here
    have sign : ∀ w1, PSt C w1 p → Ow C.pb w w1 → Box4 w1 w.heap.size (.int .i64 0) (.string ⟨#[]⟩) (.slice none 0 0) (.int .i64 0) → True := fun _ _ _ _ => trivial
    clear sign
    go_enter Tryz.func162, Tryz.ntmps162
    go_wp2_with fail
    refine c0.mono ?_
    clear c0
    rintro e w1 (⟨hB1, rfl, hs1, ho1, ⟨z0, z1, z2, z3, zf⟩, HZ⟩ | ⟨hB1, rfl, hs1, ho1, ⟨z0, z1, z2, z3, zf⟩, HZ⟩)
    · go_wp2_with fail
      have HE := Lib.hid (EA.out (by simp [hB1]))
      have hpn : p < C.ts.length := isT_lt hB1
      have HPN := Lib.hid hpn
      have hle := hs1.len
      have X1 : IntKind.i64.wrap ((p : Int) + 1) = (p : Int) + 1 := IntWalk.i64_in _ (by omega)
      have c1 := token_x C p w1 hs1 _ (fun w' ho => HZ.out.x ho hne0)
      rw [HPL.out, HTX.out] at c1
      have HO1 := Lib.hid (HA.out.trans ho1)
      clear hs1 ho1 z0 z1 z2 z3 zf HZ hpn hle EA EB
      refine c1.mono ?_
      clear c1
      rintro e w2 ⟨rfl, hs2, ho2, ⟨z0, z1, z2, z3, zf⟩, HZ⟩
      have c2 := token_x C p w2 hs2 _ (fun w' ho => HZ.out.x ho hne0)
      rw [HPL.out, HTX.out] at c2
      have HO2 := Lib.hid (HO1.out.trans ho2)
      clear hs2 ho2 z0 z1 z2 z3 zf HZ
      go_wp2_with fail
      refine c2.mono ?_
      clear c2
      rintro e w3 ⟨rfl, hs3, ho3, ⟨z0, z1, z2, z3, zf⟩, HZ⟩
      have HO3 := Lib.hid (HO2.out.trans ho3)
      have hlt3 : w.heap.size < w3.heap.size := HZ.out.lt
      have hne3 : w3.heap.size ≠ C.pb := by omega
      have hne3' : C.pb ≠ w3.heap.size := by omega
      have hs3a := fun o => hs3.below ((Below.refl _ _).alloc (Nat.le_refl _) o)
      have k2 := fun o => (hs3a o).cells.2.2.1
      have kf := fun o => (hs3a o).cells.2.2.2
      have hs4 : PSt C ((w3.alloc (.cells #[.int .i64 12, .string ⟨tx.toArray⟩, .slice none 0 0, .int .i64 pl] 53)).setCell ⟨C.pb, 2, none⟩ (.int .i64 ((p : Int) + 1))) (p + 1) := (hs3a _).step (q := p + 1) HPN.out
      have HZ4 := Box4.other (k := C.pb) (o := 2) (v := .int .i64 ((p : Int) + 1)) (HZ.out.alloc (.cells #[.int .i64 12, .string ⟨tx.toArray⟩, .slice none 0 0, .int .i64 pl] 53)) hne0
      have HN4 := Box4.other (k := C.pb) (o := 2) (v := .int .i64 ((p : Int) + 1)) (Box4.new w3 (.int .i64 12) (.string ⟨tx.toArray⟩) (.slice none 0 0) (.int .i64 pl)) hne3
      have hx0 : unaryL C.ts C.s.size ex f g (p + 1) ≠ .out := fun e => HNE.out (by rw [HE.out, e]; rfl)
      have c3 := node_x (HIH.out _ (p + 1) hs4 trivial hx0) _ (fun w' ho => And.intro (HZ4.x ho hne0) (HN4.x ho hne3))
      have HO4 : Hid (Ow C.pb w ((w3.alloc (.cells #[.int .i64 12, .string ⟨tx.toArray⟩, .slice none 0 0, .int .i64 pl] 53)).setCell ⟨C.pb, 2, none⟩ (.int .i64 ((p : Int) + 1)))) := Lib.hid ((HO3.out.alloc _).setCell (a := ⟨C.pb, 2, none⟩) (.inl rfl) _)
      have hlt4 := HN4.lt
      clear hs3 ho3 hs3a hs4 HZ4 HN4 hx0 z0 z1 z2 z3 zf HZ
      go_wp2_with fail
      refine c3.mono ?_
      clear c3 k2 kf
      rintro e w5 (⟨k, n, kids, pp, y, c, q, hr5, rfl, hk5, hs5, ho5, ⟨⟨z0, z1, z2, z3, zf⟩, HZ⟩, ⟨n0, n1, n2, n3, nf⟩, HN⟩ | ⟨q, hr5, b, hd1, rfl, hd3, hd4⟩)
      · have HR5 := Lib.hid hr5
        have HK5 := Lib.hid hk5
        have hB5 := ho5.size
        have m0 := fun o => al_cell z0 o
        have m1 := fun o => al_cell z1 o
        have m2 := fun o => al_cell z2 o
        have m3 := fun o => al_cell z3 o
        have l0 := fun o => al_cell n0 o
        have l1 := fun o => al_cell n1 o
        have l2 := fun o => al_cell n2 o
        have l3 := fun o => al_cell n3 o
        have mf := fun ob o => ((HZ.out.alloc ob).facts).2.2.2.2 o
        have lf := fun ob o => ((HN.out.alloc ob).facts).2.2.2.2 o
        have hneb : w.heap.size ≠ w3.heap.size := by omega
        clear hr5 hk5
        go_wp2_with fail
        refine ret_node rfl rfl rfl (by simp [go_sem, m0]) (by simp [go_sem, m1]) (by simp [go_sem, m2]) (by simp [go_sem, m3]) (.inl ⟨12, tx, [.mk k n kids pp], pl, some ⟨w5.heap.size, 0, none⟩, ⟨1, Nat.le_refl _⟩, q, ?_, rfl,
          (((NdRow.build hB5 (NFlat.one (HK5.out.cells (k := k) (n := n) (p := pp) (c := c)))).set (fun b hb => by omega)).set4 (fun b hb => by omega)).wide (fun b hb _ => by omega),
          H0.out.keep hs5 ((((Kp.refl _ _).alloc (by omega) _).set (by omega)).set4 (Nat.le_refl _)), (((HO4.out.trans ho5).alloc _).set (by omega)).set4 (Nat.le_refl _)⟩)
        rw [HE.out, HR5.out]
        rfl
      · refine ⟨rfl, .inr ⟨q, ?_, b, Nat.le_trans HO4.out.size hd1, rfl, hd3, HO4.out.trans hd4⟩⟩
        rw [HE.out, hr5]
        rfl
    · have c1 := is_x C p [33] w1 hs1 _ (fun w' ho => HZ.out.x ho hne0)
      have HA' := Lib.hid (HA.out.trans ho1)
      clear hs1 ho1 z0 z1 z2 z3 zf HZ HA
      have HA := HA'
      clear HA'
      go_wp2_with fail
      refine c1.mono ?_
      clear c1
      rintro e w1 (⟨hB2, rfl, hs1, ho1, ⟨z0, z1, z2, z3, zf⟩, HZ⟩ | ⟨hB2, rfl, hs1, ho1, ⟨z0, z1, z2, z3, zf⟩, HZ⟩)
      · go_wp2_with fail
        have HE := Lib.hid (EA.out (by simp [hB1, hB2]))
        have hpn : p < C.ts.length := isT_lt hB2
        have HPN := Lib.hid hpn
        have hle := hs1.len
        have X1 : IntKind.i64.wrap ((p : Int) + 1) = (p : Int) + 1 := IntWalk.i64_in _ (by omega)
        have c1 := token_x C p w1 hs1 _ (fun w' ho => HZ.out.x ho hne0)
        rw [HPL.out, HTX.out] at c1
        have HO1 := Lib.hid (HA.out.trans ho1)
        clear hs1 ho1 z0 z1 z2 z3 zf HZ hpn hle EA EB
        refine c1.mono ?_
        clear c1
        rintro e w2 ⟨rfl, hs2, ho2, ⟨z0, z1, z2, z3, zf⟩, HZ⟩
        have c2 := token_x C p w2 hs2 _ (fun w' ho => HZ.out.x ho hne0)
        rw [HPL.out, HTX.out] at c2
        have HO2 := Lib.hid (HO1.out.trans ho2)
        clear hs2 ho2 z0 z1 z2 z3 zf HZ
        go_wp2_with fail
        refine c2.mono ?_
        clear c2
        rintro e w3 ⟨rfl, hs3, ho3, ⟨z0, z1, z2, z3, zf⟩, HZ⟩
        have HO3 := Lib.hid (HO2.out.trans ho3)
        have hlt3 : w.heap.size < w3.heap.size := HZ.out.lt
        have hne3 : w3.heap.size ≠ C.pb := by omega
        have hne3' : C.pb ≠ w3.heap.size := by omega
        have hs3a := fun o => hs3.below ((Below.refl _ _).alloc (Nat.le_refl _) o)
        have k2 := fun o => (hs3a o).cells.2.2.1
        have kf := fun o => (hs3a o).cells.2.2.2
        have hs4 : PSt C ((w3.alloc (.cells #[.int .i64 12, .string ⟨tx.toArray⟩, .slice none 0 0, .int .i64 pl] 53)).setCell ⟨C.pb, 2, none⟩ (.int .i64 ((p : Int) + 1))) (p + 1) := (hs3a _).step (q := p + 1) HPN.out
        have HZ4 := Box4.other (k := C.pb) (o := 2) (v := .int .i64 ((p : Int) + 1)) (HZ.out.alloc (.cells #[.int .i64 12, .string ⟨tx.toArray⟩, .slice none 0 0, .int .i64 pl] 53)) hne0
        have HN4 := Box4.other (k := C.pb) (o := 2) (v := .int .i64 ((p : Int) + 1)) (Box4.new w3 (.int .i64 12) (.string ⟨tx.toArray⟩) (.slice none 0 0) (.int .i64 pl)) hne3
        have hx0 : unaryL C.ts C.s.size ex f g (p + 1) ≠ .out := fun e => HNE.out (by rw [HE.out, e]; rfl)
        have c3 := node_x (HIH.out _ (p + 1) hs4 trivial hx0) _ (fun w' ho => And.intro (HZ4.x ho hne0) (HN4.x ho hne3))
        have HO4 : Hid (Ow C.pb w ((w3.alloc (.cells #[.int .i64 12, .string ⟨tx.toArray⟩, .slice none 0 0, .int .i64 pl] 53)).setCell ⟨C.pb, 2, none⟩ (.int .i64 ((p : Int) + 1)))) := Lib.hid ((HO3.out.alloc _).setCell (a := ⟨C.pb, 2, none⟩) (.inl rfl) _)
        have hlt4 := HN4.lt
        clear hs3 ho3 hs3a hs4 HZ4 HN4 hx0 z0 z1 z2 z3 zf HZ
        go_wp2_with fail
        refine c3.mono ?_
        clear c3 k2 kf
        rintro e w5 (⟨k, n, kids, pp, y, c, q, hr5, rfl, hk5, hs5, ho5, ⟨⟨z0, z1, z2, z3, zf⟩, HZ⟩, ⟨n0, n1, n2, n3, nf⟩, HN⟩ | ⟨q, hr5, b, hd1, rfl, hd3, hd4⟩)
        · have HR5 := Lib.hid hr5
          have HK5 := Lib.hid hk5
          have hB5 := ho5.size
          have m0 := fun o => al_cell z0 o
          have m1 := fun o => al_cell z1 o
          have m2 := fun o => al_cell z2 o
          have m3 := fun o => al_cell z3 o
          have l0 := fun o => al_cell n0 o
          have l1 := fun o => al_cell n1 o
          have l2 := fun o => al_cell n2 o
          have l3 := fun o => al_cell n3 o
          have mf := fun ob o => ((HZ.out.alloc ob).facts).2.2.2.2 o
          have lf := fun ob o => ((HN.out.alloc ob).facts).2.2.2.2 o
          have hneb : w.heap.size ≠ w3.heap.size := by omega
          clear hr5 hk5
          go_wp2_with fail
          refine ret_node rfl rfl rfl (by simp [go_sem, m0]) (by simp [go_sem, m1]) (by simp [go_sem, m2]) (by simp [go_sem, m3]) (.inl ⟨12, tx, [.mk k n kids pp], pl, some ⟨w5.heap.size, 0, none⟩, ⟨1, Nat.le_refl _⟩, q, ?_, rfl,
            (((NdRow.build hB5 (NFlat.one (HK5.out.cells (k := k) (n := n) (p := pp) (c := c)))).set (fun b hb => by omega)).set4 (fun b hb => by omega)).wide (fun b hb _ => by omega),
            H0.out.keep hs5 ((((Kp.refl _ _).alloc (by omega) _).set (by omega)).set4 (Nat.le_refl _)), (((HO4.out.trans ho5).alloc _).set (by omega)).set4 (Nat.le_refl _)⟩)
          rw [HE.out, HR5.out]
          rfl
        · refine ⟨rfl, .inr ⟨q, ?_, b, Nat.le_trans HO4.out.size hd1, rfl, hd3, HO4.out.trans hd4⟩⟩
          rw [HE.out, hr5]
          rfl
      · have HE := Lib.hid (EB.out (by simp [hB1, hB2]))
        have hx0 : atomO C.ts C.s.size ex f p ≠ .out := fun e => HNE.out (by rw [HE.out, e]; rfl)
        have c2 := node_x (atom_any C ex HHX.out f hf w1 p hs1 trivial hx0) _ (fun w' ho => HZ.out.x ho hne0)
        have HO1 := Lib.hid (HA.out.trans ho1)
        have hlt1 : w.heap.size < w1.heap.size := HZ.out.lt
        clear hs1 ho1 z0 z1 z2 z3 zf HZ EA EB hx0 HIH
        go_wp2_with fail
        refine c2.mono ?_
        clear c2
        rintro e w3 (⟨k, n, kids, pp, y, c, q, hr3, rfl, hk3, hs3, ho3, ⟨z0, z1, z2, z3, zf⟩, HZ⟩ | ⟨q, hr3, b, hd1, rfl, hd3, hd4⟩)
        · have HL := HE.out
          rw [hr3] at HL
          have HS : Hid (indexL C.ts C.s.size ex f (.mk k n kids pp) q = R) := HL.symm
          have hlt3 : w.heap.size < w3.heap.size := HZ.out.lt
          have hne3 : w3.heap.size ≠ C.pb := by omega
          have hlt13 := ho3.size
          have HK3 : Hid (NdRow (w3.alloc (.cells #[.int .i64 k, .string ⟨n.toArray⟩, .slice y kids.length c, .int .i64 pp] 53)) (fun b => w.heap.size < b ∧ b ≠ w3.heap.size) kids y) := NdRow.mono (fun b h1 h2 => by omega) (fun b _ h2 => Below.heap_alloc _ _ b h2) _ _ hk3
          have HS3 : Hid (PSt C (w3.alloc (.cells #[.int .i64 k, .string ⟨n.toArray⟩, .slice y kids.length c, .int .i64 pp] 53)) q) := hs3.below ((Below.refl _ _).alloc (Nat.le_refl _) _)
          have HO3 : Hid (Ow C.pb w (w3.alloc (.cells #[.int .i64 k, .string ⟨n.toArray⟩, .slice y kids.length c, .int .i64 pp] 53))) := (HO1.out.trans ho3).alloc _
          have HZ3 : Hid (Box4 (w3.alloc (.cells #[.int .i64 k, .string ⟨n.toArray⟩, .slice y kids.length c, .int .i64 pp] 53)) w.heap.size (.int .i64 0) (.string ⟨#[]⟩) (.slice none 0 0) (.int .i64 0)) := HZ.out.alloc _
          have HX3 : Hid (Box4 (w3.alloc (.cells #[.int .i64 k, .string ⟨n.toArray⟩, .slice y kids.length c, .int .i64 pp] 53)) w3.heap.size (.int .i64 k) (.string ⟨n.toArray⟩) (.slice y kids.length c) (.int .i64 pp)) := Box4.new _ _ _ _ _
          clear hr3 hk3 hs3 ho3 z0 z1 z2 z3 zf HZ HE HL
          go_wp2_with fail
          go_loopg [] f (fun gg wx => ∃ k n, ∃ kids : List Nd, ∃ pp y, ∃ c : Cp kids.length, ∃ q, Box4 wx w.heap.size (.int .i64 0) (.string ⟨#[]⟩) (.slice none 0 0) (.int .i64 0) ∧ Box4 wx w3.heap.size (.int .i64 k) (.string ⟨n.toArray⟩) (.slice y (List.length kids) c) (.int .i64 pp) ∧ NdRow wx (fun b => w.heap.size < b ∧ b ≠ w3.heap.size) kids y ∧ PSt C wx q ∧ Ow C.pb w wx ∧ Hid (indexL C.ts C.s.size ex gg (.mk k n kids pp) q = R))
          case atStart => exact ⟨k, n, kids, pp, y, c, q, HZ3.out, HX3.out, HK3.out, HS3.out, HO3.out, HS⟩
          case round =>
            clear HZ3 HX3 HK3 HS3 HO3 HS
            obtain ⟨k, n, kids, pp, y, c, q, hZ, hX, hK, hs, ho, hS⟩ := hrel
            obtain ⟨g', rfl⟩ : ∃ g', gk = g' + 1 := by
              cases gk with
              | zero => exact absurd hS.out.symm HNE.out
              | succ g' => exact ⟨g', rfl⟩
            have hltr := hX.lt
            have c1 := is_x C q [91] wr hs _ (fun w' ho' => And.intro (hZ.x ho' hne0) (And.intro (hX.x ho' hne3) (hK.ow ho' (fun b hb => by omega))))
            have HO := Lib.hid ho
            clear hZ hX hK hs ho
            go_wp2_with fail
            refine c1.mono ?_
            clear c1
            rintro e w4 (⟨hB, rfl, hs4, ho4, ⟨⟨z0, z1, z2, z3, zf⟩, HZ⟩, ⟨⟨x0, x1, x2, x3, xf⟩, HX⟩, hk4⟩ | ⟨hB, rfl, hs4, ho4, ⟨⟨z0, z1, z2, z3, zf⟩, HZ⟩, ⟨⟨x0, x1, x2, x3, xf⟩, HX⟩, hk4⟩)
            · obtain ⟨pq, hpq⟩ : ∃ pq, placeT C.ts C.s.size q = pq := ⟨_, rfl⟩
              have HL := hS.out
              rw [indexL_step hB, hpq] at HL
              have HL' := Lib.hid HL
              have hBt := Lib.hid hB
              have c2 := take_x C q [91] w4 hs4 _ (fun w' ho' => And.intro (HZ.out.x ho' hne0) (And.intro (HX.out.x ho' hne3) (hk4.ow ho' (fun b hb => by omega))))
              rw [hpq] at c2
              have HO4 := Lib.hid (HO.out.trans ho4)
              clear hs4 ho4 hk4 z0 z1 z2 z3 zf HZ x0 x1 x2 x3 xf HX hB hpq HL hS HO
              go_wp2_with fail
              refine c2.mono ?_
              clear c2
              rintro e w5 (⟨q5, hr5, rfl, hs5, ho5, ⟨⟨z0, z1, z2, z3, zf⟩, HZ⟩, ⟨⟨x0, x1, x2, x3, xf⟩, HX⟩, hk5⟩ | ⟨hr5, b, hd1, rfl, hd3, hd4⟩)
              · obtain rfl : q5 = q + 1 := by
                  unfold takeP at hr5
                  rw [hBt.out] at hr5
                  simp at hr5
                  omega
                have hlt5 := HX.out.lt
                have hne5 : w5.heap.size ≠ C.pb := by have := HO4.out.size; have := ho5.size; omega
                have hs6 : PSt C (w5.alloc (.cells #[.int .i64 14, .string ⟨#[]⟩, .slice none 0 0, .int .i64 pq] 53)).drew (q + 1) := hs5.below (((Below.refl _ _).alloc (Nat.le_refl _) _).drew)
                have HZ6 : Box4 (w5.alloc (.cells #[.int .i64 14, .string ⟨#[]⟩, .slice none 0 0, .int .i64 pq] 53)).drew w.heap.size (.int .i64 0) (.string ⟨#[]⟩) (.slice none 0 0) (.int .i64 0) := HZ.out.alloc _
                have HX6 : Box4 (w5.alloc (.cells #[.int .i64 14, .string ⟨#[]⟩, .slice none 0 0, .int .i64 pq] 53)).drew w3.heap.size (.int .i64 k) (.string ⟨n.toArray⟩) (.slice y (List.length kids) c) (.int .i64 pp) := HX.out.alloc _
                have HN6 : Box4 (w5.alloc (.cells #[.int .i64 14, .string ⟨#[]⟩, .slice none 0 0, .int .i64 pq] 53)).drew w5.heap.size (.int .i64 14) (.string ⟨#[]⟩) (.slice none 0 0) (.int .i64 pq) := Box4.new w5 _ _ _ _
                have hk6 : NdRow (w5.alloc (.cells #[.int .i64 14, .string ⟨#[]⟩, .slice none 0 0, .int .i64 pq] 53)).drew (fun b => (w.heap.size < b ∧ b ≠ w3.heap.size) ∧ b < w5.heap.size) kids y := NdRow.mono (w' := (w5.alloc (.cells #[.int .i64 14, .string ⟨#[]⟩, .slice none 0 0, .int .i64 pq] 53)).drew) (ok' := fun b => (w.heap.size < b ∧ b ≠ w3.heap.size) ∧ b < w5.heap.size) (fun b h1 h2 => ⟨h1, h2⟩) (fun b _ h2 => Below.heap_alloc w5 (.cells #[.int .i64 14, .string ⟨#[]⟩, .slice none 0 0, .int .i64 pq] 53) b h2) _ _ hk5
                have hx0 : ex (q + 1) ≠ .out := fun e => HNE.out (by rw [← HL'.out, e]; rfl)
                have c3 := HHX.out _ (q + 1) hs6 trivial hx0
                have hX7 := fun w' (ho' : Ow C.pb _ w') => And.intro (HZ6.x ho' hne0) (And.intro (HX6.x ho' hne3) (And.intro (HN6.x ho' hne5) (hk6.ow ho' (fun b hb => by omega))))
                have HO6 : Hid (Ow C.pb w (w5.alloc (.cells #[.int .i64 14, .string ⟨#[]⟩, .slice none 0 0, .int .i64 pq] 53)).drew) := ((HO4.out.trans ho5).alloc _).drew
                have m0 := fun o => al_cell z0 o
                have m1 := fun o => al_cell z1 o
                have m2 := fun o => al_cell z2 o
                have m3 := fun o => al_cell z3 o
                have v0 := fun o => al_cell x0 o
                have v1 := fun o => al_cell x1 o
                have v2 := fun o => al_cell x2 o
                have v3 := fun o => al_cell x3 o
                cases hres : ex (q + 1) with
                | out => exact absurd hres hx0
                | bad q7 =>
                  have c4 := node_bad c3 hres
                  have HRES := Lib.hid hres
                  clear hr5 hs5 ho5 hk5 hs6 HZ6 HX6 HN6 hk6 hx0 z0 z1 z2 z3 zf HZ x0 x1 x2 x3 xf HX hX7 c3 hres
                  go_wp2_with fail
                  go_region_dies
                  all_goals (refine c4.mono ?_; rintro e w7 ⟨b, hd1, rfl, hd3, hd4⟩; exact ⟨rfl, .inr ⟨q7, by rw [← HL'.out, HRES.out]; rfl, b, Nat.le_trans HO6.out.size hd1, rfl, hd3, HO6.out.trans hd4⟩⟩)
                | ok nd q7 =>
                  obtain ⟨k', n', kids', pp'⟩ := nd
                  have c4 := node_ok c3 hres _ hX7
                  have HRES := Lib.hid hres
                  clear hr5 hs5 ho5 hk5 hs6 HZ6 HX6 HN6 hk6 hx0 z0 z1 z2 z3 zf HZ x0 x1 x2 x3 xf HX hX7 c3 hres
                  go_wp2_with fail
                  go_region_with (first | (go_at_call 109; (with_reducible refine c4.mono ?_); rintro e w7 ⟨y', c', rfl, hk7, hs7, ho7, ⟨⟨z0, z1, z2, z3, zf⟩, HZ⟩, ⟨⟨x0, x1, x2, x3, xf⟩, HX⟩, ⟨⟨n0, n1, n2, n3, nf⟩, HN⟩, hkk⟩; have l2 := fun o => al_cell n2 o; have lf := fun ob o => ((HN.out.alloc ob).facts).2.2.2.2 o))
                  all_goals (
                    have hsz7 := ho7.size
                    have hsz5 : w5.heap.size + 1 ≤ w7.heap.size := by simpa using hsz7
                    have HO7 := Lib.hid (HO6.out.trans ho7)
                    have hszw := HO4.out.size
                    have hneb : w.heap.size ≠ w5.heap.size := by omega
                    have hneb3 : w3.heap.size ≠ w5.heap.size := by omega
                    have hrow8 : NdRow ((w7.alloc (.cells #[.int .i64 k, .string ⟨n.toArray⟩, .slice y (List.length kids) c, .int .i64 pp, .int .i64 k', .string ⟨n'.toArray⟩, .slice y' (List.length kids') c', .int .i64 pp'] 53)).setCell ⟨w5.heap.size, 2, none⟩ (.slice (some ⟨w7.heap.size, 0, none⟩) 2 2)) (fun b => (w.heap.size < b ∧ b ≠ w3.heap.size) ∧ b ≠ w5.heap.size) [.mk k n kids pp, .mk k' n' kids' pp'] (some ⟨w7.heap.size, 0, none⟩) :=
                      (NdRow.buildK (ok := fun b => (w.heap.size < b ∧ b ≠ w3.heap.size) ∧ b ≠ w5.heap.size) (by omega) (NFlat.two ((hkk.wide (fun b hb _ => by omega)).cells (k := k) (n := n) (p := pp) (c := c)) ((hk7.wide (fun b hb _ => by have h9 : w5.heap.size + 1 ≤ b := (by simpa using hb); omega)).cells (k := k') (n := n') (p := pp') (c := c')))).set (fun b hb => hb.2)
                    have HR8 := Lib.hid hrow8
                    have hs8 := H0.out.keep hs7 (((Kp.refl _ _).alloc (by omega) (.cells #[.int .i64 k, .string ⟨n.toArray⟩, .slice y (List.length kids) c, .int .i64 pp, .int .i64 k', .string ⟨n'.toArray⟩, .slice y' (List.length kids') c', .int .i64 pp'] 53)).set (k := w5.heap.size) (o := 2) (v := .slice (some ⟨w7.heap.size, 0, none⟩) 2 2) (by omega))
                    have HS8 := Lib.hid hs8
                    have HZ8 := Lib.hid (Box4.other (k := w5.heap.size) (o := 2) (v := .slice (some ⟨w7.heap.size, 0, none⟩) 2 2) (HZ.out.alloc (.cells #[.int .i64 k, .string ⟨n.toArray⟩, .slice y (List.length kids) c, .int .i64 pp, .int .i64 k', .string ⟨n'.toArray⟩, .slice y' (List.length kids') c', .int .i64 pp'] 53)) hneb)
                    have HX8 := Lib.hid (Box4.other (k := w5.heap.size) (o := 2) (v := .slice (some ⟨w7.heap.size, 0, none⟩) 2 2) (HX.out.alloc (.cells #[.int .i64 k, .string ⟨n.toArray⟩, .slice y (List.length kids) c, .int .i64 pp, .int .i64 k', .string ⟨n'.toArray⟩, .slice y' (List.length kids') c', .int .i64 pp'] 53)) hneb3)
                    have HN8 := Lib.hid (Box4.set2 (v := .slice (some ⟨w7.heap.size, 0, none⟩) 2 2) (HN.out.alloc (.cells #[.int .i64 k, .string ⟨n.toArray⟩, .slice y (List.length kids) c, .int .i64 pp, .int .i64 k', .string ⟨n'.toArray⟩, .slice y' (List.length kids') c', .int .i64 pp'] 53)))
                    have c5 := take_x C q7 [93] _ HS8.out _ (fun w' ho' => And.intro (HZ8.out.x ho' hne0) (And.intro (HX8.out.x ho' hne3) (And.intro (HN8.out.x ho' hne5) (HR8.out.ow ho' (fun b hb => by omega)))))
                    have HO8 : Hid (Ow C.pb w ((w7.alloc (.cells #[.int .i64 k, .string ⟨n.toArray⟩, .slice y (List.length kids) c, .int .i64 pp, .int .i64 k', .string ⟨n'.toArray⟩, .slice y' (List.length kids') c', .int .i64 pp'] 53)).setCell ⟨w5.heap.size, 2, none⟩ (.slice (some ⟨w7.heap.size, 0, none⟩) 2 2))) := Lib.hid ((HO7.out.alloc _).set (by omega))
                    clear hk7 hs7 ho7 hkk z0 z1 z2 z3 zf HZ x0 x1 x2 x3 xf HX n0 n1 n2 n3 nf HN l2 lf hrow8 hs8 m0 m1 m2 m3 v0 v1 v2 v3
                    go_wp2_with fail
                    refine c5.mono ?_
                    clear c5
                    rintro e w9 (⟨q9, hr9, rfl, hs9, ho9, ⟨⟨z0, z1, z2, z3, zf⟩, HZ⟩, ⟨⟨x0, x1, x2, x3, xf⟩, HX⟩, ⟨⟨n0, n1, n2, n3, nf⟩, HN⟩, hk9⟩ | ⟨hr9, b, hd1, rfl, hd3, hd4⟩)
                    · have HK9 := Lib.hid hk9
                      have HR9 := Lib.hid hr9
                      have HO9 := Lib.hid (HO8.out.trans ho9)
                      have HS9 := Lib.hid hs9
                      clear hk9 hr9 ho9 hs9
                      go_wp2_with fail
                      go_roundg g'
                      case measure => omega
                      case rel =>
                        refine ⟨14, [], [.mk k n kids pp, .mk k' n' kids' pp'], pq, some ⟨w7.heap.size, 0, none⟩, ⟨2, Nat.le_refl _⟩, q9, HZ.out.other4 (by omega), HX.out.set4, (HK9.out.set4 (fun b hb => hb.1.2)).wide (fun b hb _ => hb.1), H0.out.keep HS9.out ((Kp.refl _ _).set4 (by omega)), HO9.out.set4 (by omega), ?_⟩
                        have h1 := HL'.out
                        rw [HRES.out] at h1
                        simp only [Res.bind] at h1
                        rw [HR9.out] at h1
                        exact h1
                    · refine ⟨rfl, .inr ⟨q7, ?_, b, Nat.le_trans HO8.out.size hd1, rfl, hd3, HO8.out.trans hd4⟩⟩
                      have h1 := HL'.out
                      rw [HRES.out] at h1
                      simp only [Res.bind] at h1
                      rw [hr9] at h1
                      exact h1.symm)
              · exfalso
                unfold takeP at hr5
                rw [hBt.out] at hr5
                simp at hr5
            · have HL := hS.out
              rw [indexL_end hB] at HL
              have HE2 := Lib.hid HL
              have HK4 := Lib.hid hk4
              clear hk4 HL hB
              go_wp2_with fail
              refine ret_node rfl rfl rfl (by simp [go_sem, z0]) (by simp [go_sem, z1]) (by simp [go_sem, z2]) (by simp [go_sem, z3]) (.inl ⟨k, n, kids, pp, y, c, q, HE2.out.symm, rfl, (HK4.out.set4 (fun b hb => by omega)).wide (fun b hb _ => by omega), H0.out.keep hs4 ((Kp.refl _ _).set4 (Nat.le_refl _)), (HO.out.trans ho4).set4 (Nat.le_refl _)⟩)
        · refine ⟨rfl, .inr ⟨q, ?_, b, Nat.le_trans HO1.out.size hd1, rfl, hd3, HO1.out.trans hd4⟩⟩
          rw [HE.out, hr3]
          rfl
end Go.Proofs.YtpbkeamjdolpgaaGreatDoor
