/- The walk of the reference's atoms. -/
import Derived.Test.YtpbkeamjdolpgaaGreatDoorTreeQh
namespace Go.Proofs.YtpbkeamjdolpgaaGreatDoor
open Go.RowKit Go.Lib Go.Shelf

set_option maxHeartbeats 4000000 in
set_option maxRecDepth 100000 in
theorem ratom_any (C : Ctx) (ex : Nat → Res Nd) (hx : ROneQ C 87 ex) (f : Nat) (hf : f ≤ 8192) : ROne C 219 (atomO C.ts C.s.size ex f) := by
  intro w b p h hne
  obtain ⟨R, hR⟩ : ∃ R, Tot (atomO C.ts C.s.size ex f) b p = R := ⟨_, rfl⟩
  have HT : Hid (R = Tot (atomO C.ts C.s.size ex f) b p) := hj hR.symm
  rw [hR] at hne
  have HR := hj hR
  have HNE := hj hne
  have HHX := hj hx
  have HN896 : Hid (NSt C w w b p []) := NSt.start h
  clear hR hne h hx
  go_enter Tryz.func219, Tryz.ntmps219
  go_upto_region 1 with (fail)
  have HN897 : Hid (NSt C w (World.alloc w (.cells #[.int .i64 0, .string ⟨#[]⟩, .slice none 0 0, .int .i64 0] 53)) b p [zB w.heap.size]) := hj (HN896.out.alloc _ _ _ _)
  clear HN896
  generalize World.alloc w (.cells #[.int .i64 0, .string ⟨#[]⟩, .slice none 0 0, .int .i64 0] 53) = W898 at HN897 ⊢
  have c899 := rplace_any C b p W898 HN897.out.st
  obtain ⟨pl900, hpl900⟩ : ∃ pl, placeT C.ts C.s.size p = pl := ⟨_, rfl⟩
  rw [hpl900] at c899
  have Hpl900 := hj hpl900
  clear hpl900
  go_wp2_with fail
  (with_reducible refine c899.mono ?_)
  clear c899
  rintro e V902 ⟨rfl, hb901⟩
  have hb901s := HN897.out.st.below hb901
  have hb901o : Ow C.pb W898 V902 := Ow.of_below hb901
  clear hb901
  have HN903 : Hid (NSt C w V902 b p [zB w.heap.size]) := hj (HN897.out.call hb901s hb901o)
  clear HN897 hb901o hb901s
  go_upto_region 2 with (fail)
  have HN904 : Hid (NSt C w (World.alloc V902 (.cells #[.int .i64 0, .string ⟨#[]⟩, .slice none 0 0, .int .i64 pl900] 53)) b p [(V902.heap.size, .int .i64 0, .string ⟨#[]⟩, .slice none 0 0, .int .i64 pl900), zB w.heap.size]) := hj (HN903.out.alloc _ _ _ _)
  clear HN903
  generalize World.alloc V902 (.cells #[.int .i64 0, .string ⟨#[]⟩, .slice none 0 0, .int .i64 pl900] 53) = W905 at HN904 ⊢
  have c906 := ris_any C b p [40] W905 HN904.out.st
  obtain ⟨E907, hE907⟩ : ∃ E, (!b && isT C.ts p [40]) = E := ⟨_, rfl⟩
  rw [hE907] at c906
  have HE907 := hj hE907
  clear hE907
  go_wp2_with fail
  (with_reducible refine c906.mono ?_)
  clear c906
  rintro e V909 ⟨rfl, hb908⟩
  have hb908s := HN904.out.st.below hb908
  have hb908o : Ow C.pb W905 V909 := Ow.of_below hb908
  clear hb908
  have HN910 : Hid (NSt C w V909 b p [(V902.heap.size, .int .i64 0, .string ⟨#[]⟩, .slice none 0 0, .int .i64 pl900), zB w.heap.size]) := hj (HN904.out.call hb908s hb908o)
  clear HN904 hb908o hb908s
  have c911 := ris_any C b p [91] V909 HN910.out.st
  obtain ⟨E912, hE912⟩ : ∃ E, (!b && isT C.ts p [91]) = E := ⟨_, rfl⟩
  rw [hE912] at c911
  have HE912 := hj hE912
  clear hE912
  go_wp2_with fail
  (with_reducible refine c911.mono ?_)
  clear c911
  rintro e V914 ⟨rfl, hb913⟩
  have hb913s := HN910.out.st.below hb913
  have hb913o : Ow C.pb V909 V914 := Ow.of_below hb913
  clear hb913
  have HN915 : Hid (NSt C w V914 b p [(V902.heap.size, .int .i64 0, .string ⟨#[]⟩, .slice none 0 0, .int .i64 pl900), zB w.heap.size]) := hj (HN910.out.call hb913s hb913o)
  clear HN910 hb913o hb913s
  have c916 := rnamed_any C b p V914 HN915.out.st
  obtain ⟨E917, hE917⟩ : ∃ E, (!b && namedT C.ts p) = E := ⟨_, rfl⟩
  rw [hE917] at c916
  have HE917 := hj hE917
  clear hE917
  go_wp2_with fail
  (with_reducible refine c916.mono ?_)
  clear c916
  rintro e V919 ⟨rfl, hb918⟩
  have hb918s := HN915.out.st.below hb918
  have hb918o : Ow C.pb V914 V919 := Ow.of_below hb918
  clear hb918
  have HN920 : Hid (NSt C w V919 b p [(V902.heap.size, .int .i64 0, .string ⟨#[]⟩, .slice none 0 0, .int .i64 pl900), zB w.heap.size]) := hj (HN915.out.call hb918s hb918o)
  clear HN915 hb918o hb918s
  cases E907
  · cases E912
    · cases E917
      · cases b
        · have n1 : isT C.ts p [40] = false := by have := HE907.out; simpa using this
          have n2 : isT C.ts p [91] = false := by have := HE912.out; simpa using this
          have n3 : namedT C.ts p = false := by have := HE917.out; simpa using this
          have N1 := hj n1
          have N2 := hj n2
          have N3 := hj n3
          clear n1 n2 n3
          obtain ⟨c0, c1, c2, c3, -⟩ := HN920.out.st.cellsF
          have hlen := HN920.out.st.len
          by_cases hp : p < C.ts.length
          · obtain ⟨t, ht⟩ : ∃ t, C.ts[p]? = some t := ⟨C.ts[p], List.getElem?_eq_getElem hp⟩
            obtain ⟨g, hx, k0, k1, k2⟩ := HN920.out.st.row p t ht
            have e1 : kindT C.ts p = (t.1 : Int) := by unfold kindT; rw [ht]
            have e2 : textT C.ts p = t.2.1 := by unfold textT; rw [ht]
            have E1k := hj e1
            have E2k := hj e2
            rw [hx] at c1
            obtain ⟨kd, hkd⟩ : ∃ kd : Int, ((t.1 : Nat) : Int) = kd := ⟨_, rfl⟩
            obtain ⟨tx, htx⟩ : ∃ tx, t.2.1 = tx := ⟨_, rfl⟩
            rw [hkd] at k0
            rw [htx] at k1
            have HKD := hj hkd
            have HTX := hj htx
            obtain ⟨len, hlen0⟩ : ∃ len, C.ts.length = len := ⟨_, rfl⟩
            have HLN := hj hlen0
            rw [hlen0] at c1 hlen hp
            have HP : Hid (p < len) := hp
            have Q : decide ((p : Int) < (len : Int)) = true := by simp; omega
            clear ht hx e1 e2 hkd htx hlen0 k2
            by_cases hk1 : kd = 1
            · subst hk1
              go_upto_region 23 with (fail)
              go_quiet (fail)
              have HN921 : Hid (NSt C w (World.drewN V919 nq) false p [(V902.heap.size, .int .i64 0, .string ⟨#[]⟩, .slice none 0 0, .int .i64 pl900), zB w.heap.size]) := hj (HN920.out.below (bdn (Below.refl _ _) _))
              clear HN920
              generalize World.drewN V919 nq = W922 at HN921 ⊢
              clear c0 c1 c2 c3 k0 k1
              obtain ⟨n0, n1, n2, n3, nf⟩ : BoxF W922 (V902.heap.size) (.int .i64 0) (.string ⟨#[]⟩) (.slice none 0 0) (.int .i64 pl900) := HN921.out.at_ (List.Mem.head _)
              go_upto_region 25 with (fail)
              clear n0 n1 n2 n3 nf
              have HN923 : Hid (NSt C w (World.setCell W922 ⟨V902.heap.size, 0, none⟩ (.int .i64 9)) false p [(V902.heap.size, .int .i64 9, .string ⟨#[]⟩, .slice none 0 0, .int .i64 pl900), zB w.heap.size]) := hj (NSt.set0 (pre := []) HN921.out)
              clear HN921
              generalize World.setCell W922 ⟨V902.heap.size, 0, none⟩ (.int .i64 9) = W924 at HN923 ⊢
              obtain ⟨-, c1, c2, -, -⟩ := HN923.out.st.cellsF
              obtain ⟨t', ht'⟩ : ∃ t, C.ts[p]? = some t := ⟨C.ts[p]'(by have := HP.out; have := HLN.out; omega), List.getElem?_eq_getElem _⟩
              obtain ⟨g', hx, -, k1, -⟩ := HN923.out.st.row p t' ht'
              rw [hx, HLN.out] at c1
              have e2' : t'.2.1 = tx := by
                have h1 := E2k.out
                unfold textT at h1
                rw [ht'] at h1
                exact h1.trans HTX.out
              rw [e2'] at k1
              have hp := HP.out
              clear ht' hx e2'
              obtain ⟨n0, n1, n2, n3, nf⟩ : BoxF W924 (V902.heap.size) (.int .i64 9) (.string ⟨#[]⟩) (.slice none 0 0) (.int .i64 pl900) := HN923.out.at_ (List.Mem.head _)
              go_region
              clear c1 c2 k1 hp
              clear n0 n1 n2 n3 nf
              have HN925 : Hid (NSt C w (World.drew (World.setCell W924 ⟨V902.heap.size, 1, none⟩ (.string ⟨tx.toArray⟩))) false p [(V902.heap.size, .int .i64 9, .string ⟨tx.toArray⟩, .slice none 0 0, .int .i64 pl900), zB w.heap.size]) := hj ((NSt.set1 (pre := []) HN923.out).below (Below.drew (Below.refl _ _)))
              clear HN923
              generalize World.drew (World.setCell W924 ⟨V902.heap.size, 1, none⟩ (.string ⟨tx.toArray⟩)) = W926 at HN925 ⊢
              obtain ⟨x9271, x9272, x9273, x9274⟩ : W926.cell? ⟨C.pb, 2, none⟩ = some (.int .i64 p) ∧ W926.frozen? ⟨C.pb, 2, none⟩ = false ∧ p < C.ts.length ∧ C.ts.length ≤ 4096 := ⟨HN925.out.st.cellsF.2.2.1, HN925.out.st.cellsF.2.2.2.2.1, (by have := HP.out; have := HLN.out; omega), HN925.out.st.len⟩
              have x9275 : IntKind.i64.wrap ((p : Int) + 1) = (p : Int) + 1 := IntWalk.i64_in _ (by omega)
              have x9276 := hj x9273
              clear x9273 x9274
              go_upto_region 27 with (fail)
              clear x9271 x9272 x9275
              have HN928 : Hid (NSt C w (World.setCell W926 ⟨C.pb, 2, none⟩ (.int .i64 ((p : Int) + 1))) false (p + 1) [(V902.heap.size, .int .i64 9, .string ⟨tx.toArray⟩, .slice none 0 0, .int .i64 pl900), zB w.heap.size]) := hj (HN925.out.step (q := p + 1) x9276.out)
              clear HN925
              generalize World.setCell W926 ⟨C.pb, 2, none⟩ (.int .i64 ((p : Int) + 1)) = W929 at HN928 ⊢
              have HM : Hid (Mt R false (p + 1) (.mk 9 tx [] (pl900 : Int))) := by
                show Mt _ _ _ _
                rw [HT.out, tot_go, atomO, if_neg (by rw [N1.out]; decide), if_neg (by rw [N2.out]; decide), if_pos (by rw [E1k.out]; exact HKD.out), Hpl900.out, E2k.out, HTX.out]
                exact ⟨rfl, rfl, rfl⟩
              clear HT
              obtain ⟨n0, n1, n2, n3, nf⟩ : BoxF W929 (V902.heap.size) (.int .i64 9) (.string ⟨tx.toArray⟩) (.slice none 0 0) (.int .i64 pl900) := HN928.out.at_ (List.Mem.head _)
              obtain ⟨r0, r1, r2, r3, rf⟩ : BoxF W929 (w.heap.size) (.int .i64 0) (.string ⟨#[]⟩) (.slice none 0 0) (.int .i64 0) := HN928.out.at_ (List.Mem.tail _ (List.Mem.head _))
              have HN930 : Hid (NSt C w (S4 W929 w.heap.size (.int .i64 9) (.string ⟨tx.toArray⟩) (.slice none 0 0) (.int .i64 pl900)) false (p + 1) [(V902.heap.size, .int .i64 9, .string ⟨tx.toArray⟩, .slice none 0 0, .int .i64 pl900), (w.heap.size, .int .i64 9, .string ⟨tx.toArray⟩, .slice none 0 0, .int .i64 pl900)]) := hj (NSt.set4 (pre := [(V902.heap.size, .int .i64 9, .string ⟨tx.toArray⟩, .slice none 0 0, .int .i64 pl900)]) HN928.out)
              have HW : Hid (w.heap.size ≤ w.heap.size) := hj (Nat.le_refl _)
              have HF : Hid (RFinN C w (atomO C.ts C.s.size ex f) false p (.returned (.agg #[.int .i64 9, .string ⟨tx.toArray⟩, .slice none 0 0, .int .i64 pl900])) (S4 W929 w.heap.size (.int .i64 9) (.string ⟨tx.toArray⟩) (.slice none 0 0) (.int .i64 pl900))) := hj (NSt.fin (n := tx) (l := []) HN930.out HW.out (by rw [HR.out]; exact HM.out) (Rw.nil _ _ [] _))
              clear HN928 HN930 HW HM  
              go_wp2_with fail
              exact ret_node rfl rfl rfl (by simp [go_sem, r0]) (by simp [go_sem, r1]) (by simp [go_sem, r2]) (by simp [go_sem, r3]) HF.out
            · have Qk : (kd == 1) = false := beq_eq_false_iff_ne.2 hk1
              have NK : Hid (¬ kindT C.ts p = 1) := by
                show ¬ kindT C.ts p = 1
                rw [E1k.out, HKD.out]
                exact hk1
              clear hk1
              go_upto_region 23 with (fail)
              go_quiet (fail)
              have HN932 : Hid (NSt C w (World.drewN V919 nq) false p [(V902.heap.size, .int .i64 0, .string ⟨#[]⟩, .slice none 0 0, .int .i64 pl900), zB w.heap.size]) := hj (HN920.out.below (bdn (Below.refl _ _) _))
              clear HN920
              generalize World.drewN V919 nq = W933 at HN932 ⊢
              clear c0 c1 c2 c3
              have c934 := rfail_any C false p W933 HN932.out.st
              go_wp2_with fail
              (with_reducible refine c934.mono ?_)
              clear c934
              rintro e V937 ⟨rfl, hs935, ho936⟩
              have HM : Hid (Mt R true p (.mk 0 [] [] (pl900 : Int))) := by
                show Mt _ _ _ _
                rw [HT.out, tot_go, atomO, if_neg (by rw [N1.out]; decide), if_neg (by rw [N2.out]; decide), if_neg NK.out, nameP, if_neg (by rw [N3.out]; decide)]
                exact ⟨rfl, rfl⟩
              clear HT
              have HN938 : Hid (NSt C w V937 true p [(V902.heap.size, .int .i64 0, .string ⟨#[]⟩, .slice none 0 0, .int .i64 pl900), zB w.heap.size]) := hj (HN932.out.call hs935 ho936)
              clear HN932 ho936 hs935
              obtain ⟨n0, n1, n2, n3, nf⟩ : BoxF V937 (V902.heap.size) (.int .i64 0) (.string ⟨#[]⟩) (.slice none 0 0) (.int .i64 pl900) := HN938.out.at_ (List.Mem.head _)
              obtain ⟨r0, r1, r2, r3, rf⟩ : BoxF V937 (w.heap.size) (.int .i64 0) (.string ⟨#[]⟩) (.slice none 0 0) (.int .i64 0) := HN938.out.at_ (List.Mem.tail _ (List.Mem.head _))
              have HN939 : Hid (NSt C w (S4 V937 w.heap.size (.int .i64 0) (.string ⟨#[]⟩) (.slice none 0 0) (.int .i64 pl900)) true p [(V902.heap.size, .int .i64 0, .string ⟨#[]⟩, .slice none 0 0, .int .i64 pl900), (w.heap.size, .int .i64 0, .string ⟨#[]⟩, .slice none 0 0, .int .i64 pl900)]) := hj (NSt.set4 (pre := [(V902.heap.size, .int .i64 0, .string ⟨#[]⟩, .slice none 0 0, .int .i64 pl900)]) HN938.out)
              have HW : Hid (w.heap.size ≤ w.heap.size) := hj (Nat.le_refl _)
              have HF : Hid (RFinN C w (atomO C.ts C.s.size ex f) false p (.returned (.agg #[.int .i64 0, .string ⟨#[]⟩, .slice none 0 0, .int .i64 pl900])) (S4 V937 w.heap.size (.int .i64 0) (.string ⟨#[]⟩) (.slice none 0 0) (.int .i64 pl900))) := hj (NSt.fin (n := []) (l := []) HN939.out HW.out (by rw [HR.out]; exact HM.out) (Rw.nil _ _ [] _))
              clear HN938 HN939 HW HM  
              go_wp2_with fail
              exact ret_node rfl rfl rfl (by simp [go_sem, r0]) (by simp [go_sem, r1]) (by simp [go_sem, r2]) (by simp [go_sem, r3]) HF.out
          · have hnone : C.ts[p]? = none := List.getElem?_eq_none (by omega)
            have NK : Hid (¬ kindT C.ts p = 1) := by
              show ¬ kindT C.ts p = 1
              unfold kindT
              rw [hnone]
              decide
            obtain ⟨len, hlen0⟩ : ∃ len, C.ts.length = len := ⟨_, rfl⟩
            rw [hlen0] at c1 hlen hp
            have Q : decide ((p : Int) < (len : Int)) = false := by simp; omega
            clear hnone hlen0
            go_upto_region 23 with (fail)
            go_quiet (fail)
            have HN941 : Hid (NSt C w (World.drewN V919 nq) false p [(V902.heap.size, .int .i64 0, .string ⟨#[]⟩, .slice none 0 0, .int .i64 pl900), zB w.heap.size]) := hj (HN920.out.below (bdn (Below.refl _ _) _))
            clear HN920
            generalize World.drewN V919 nq = W942 at HN941 ⊢
            clear c0 c1 c2 c3
            have c943 := rfail_any C false p W942 HN941.out.st
            go_wp2_with fail
            (with_reducible refine c943.mono ?_)
            clear c943
            rintro e V946 ⟨rfl, hs944, ho945⟩
            have HM : Hid (Mt R true p (.mk 0 [] [] (pl900 : Int))) := by
              show Mt _ _ _ _
              rw [HT.out, tot_go, atomO, if_neg (by rw [N1.out]; decide), if_neg (by rw [N2.out]; decide), if_neg NK.out, nameP, if_neg (by rw [N3.out]; decide)]
              exact ⟨rfl, rfl⟩
            clear HT
            have HN947 : Hid (NSt C w V946 true p [(V902.heap.size, .int .i64 0, .string ⟨#[]⟩, .slice none 0 0, .int .i64 pl900), zB w.heap.size]) := hj (HN941.out.call hs944 ho945)
            clear HN941 ho945 hs944
            obtain ⟨n0, n1, n2, n3, nf⟩ : BoxF V946 (V902.heap.size) (.int .i64 0) (.string ⟨#[]⟩) (.slice none 0 0) (.int .i64 pl900) := HN947.out.at_ (List.Mem.head _)
            obtain ⟨r0, r1, r2, r3, rf⟩ : BoxF V946 (w.heap.size) (.int .i64 0) (.string ⟨#[]⟩) (.slice none 0 0) (.int .i64 0) := HN947.out.at_ (List.Mem.tail _ (List.Mem.head _))
            have HN948 : Hid (NSt C w (S4 V946 w.heap.size (.int .i64 0) (.string ⟨#[]⟩) (.slice none 0 0) (.int .i64 pl900)) true p [(V902.heap.size, .int .i64 0, .string ⟨#[]⟩, .slice none 0 0, .int .i64 pl900), (w.heap.size, .int .i64 0, .string ⟨#[]⟩, .slice none 0 0, .int .i64 pl900)]) := hj (NSt.set4 (pre := [(V902.heap.size, .int .i64 0, .string ⟨#[]⟩, .slice none 0 0, .int .i64 pl900)]) HN947.out)
            have HW : Hid (w.heap.size ≤ w.heap.size) := hj (Nat.le_refl _)
            have HF : Hid (RFinN C w (atomO C.ts C.s.size ex f) false p (.returned (.agg #[.int .i64 0, .string ⟨#[]⟩, .slice none 0 0, .int .i64 pl900])) (S4 V946 w.heap.size (.int .i64 0) (.string ⟨#[]⟩) (.slice none 0 0) (.int .i64 pl900))) := hj (NSt.fin (n := []) (l := []) HN948.out HW.out (by rw [HR.out]; exact HM.out) (Rw.nil _ _ [] _))
            clear HN947 HN948 HW HM  
            go_wp2_with fail
            exact ret_node rfl rfl rfl (by simp [go_sem, r0]) (by simp [go_sem, r1]) (by simp [go_sem, r2]) (by simp [go_sem, r3]) HF.out
        · obtain ⟨g0, c0, c1, c2, c3, -⟩ := HN920.out.st.cellsT
          go_upto_region 23 with (fail)
          go_quiet (fail)
          have HN950 : Hid (NSt C w (World.drewN V919 nq) true p [(V902.heap.size, .int .i64 0, .string ⟨#[]⟩, .slice none 0 0, .int .i64 pl900), zB w.heap.size]) := hj (HN920.out.below (bdn (Below.refl _ _) _))
          clear HN920
          generalize World.drewN V919 nq = W951 at HN950 ⊢
          clear c0 c1 c2 c3
          have c952 := rfail_any C true p W951 HN950.out.st
          go_wp2_with fail
          (with_reducible refine c952.mono ?_)
          clear c952
          rintro e V955 ⟨rfl, hs953, ho954⟩
          have HM : Hid (Mt R true p (.mk 0 [] [] (pl900 : Int))) := by
            show Mt _ _ _ _
            rw [HT.out]
            exact ⟨rfl, rfl⟩
          clear HT
          have HN956 : Hid (NSt C w V955 true p [(V902.heap.size, .int .i64 0, .string ⟨#[]⟩, .slice none 0 0, .int .i64 pl900), zB w.heap.size]) := hj (HN950.out.call hs953 ho954)
          clear HN950 ho954 hs953
          obtain ⟨n0, n1, n2, n3, nf⟩ : BoxF V955 (V902.heap.size) (.int .i64 0) (.string ⟨#[]⟩) (.slice none 0 0) (.int .i64 pl900) := HN956.out.at_ (List.Mem.head _)
          obtain ⟨r0, r1, r2, r3, rf⟩ : BoxF V955 (w.heap.size) (.int .i64 0) (.string ⟨#[]⟩) (.slice none 0 0) (.int .i64 0) := HN956.out.at_ (List.Mem.tail _ (List.Mem.head _))
          have HN957 : Hid (NSt C w (S4 V955 w.heap.size (.int .i64 0) (.string ⟨#[]⟩) (.slice none 0 0) (.int .i64 pl900)) true p [(V902.heap.size, .int .i64 0, .string ⟨#[]⟩, .slice none 0 0, .int .i64 pl900), (w.heap.size, .int .i64 0, .string ⟨#[]⟩, .slice none 0 0, .int .i64 pl900)]) := hj (NSt.set4 (pre := [(V902.heap.size, .int .i64 0, .string ⟨#[]⟩, .slice none 0 0, .int .i64 pl900)]) HN956.out)
          have HW : Hid (w.heap.size ≤ w.heap.size) := hj (Nat.le_refl _)
          have HF : Hid (RFinN C w (atomO C.ts C.s.size ex f) true p (.returned (.agg #[.int .i64 0, .string ⟨#[]⟩, .slice none 0 0, .int .i64 pl900])) (S4 V955 w.heap.size (.int .i64 0) (.string ⟨#[]⟩) (.slice none 0 0) (.int .i64 pl900))) := hj (NSt.fin (n := []) (l := []) HN957.out HW.out (by rw [HR.out]; exact HM.out) (Rw.nil _ _ [] _))
          clear HN956 HN957 HW HM  
          go_wp2_with fail
          exact ret_node rfl rfl rfl (by simp [go_sem, r0]) (by simp [go_sem, r1]) (by simp [go_sem, r2]) (by simp [go_sem, r3]) HF.out
      · obtain ⟨rfl, hHI⟩ : b = false ∧ namedT C.ts p = true := by
          have := HE917.out
          cases b <;> simp_all
        have HI := hj hHI
        clear hHI
        have HT1 : Hid (R = (Tot (nameP C.ts) false p).bind fun s q => if isT C.ts q [40] then (argsO C.ts C.s.size ex f q).bind fun a r => .ok (.mk 13 s [a] (pl900 : Int)) r else .ok (.mk 10 s [] (pl900 : Int)) q) := by
          show R = _
          have n1 : isT C.ts p [40] = false := by have := HE907.out; simpa using this
          have n2 : isT C.ts p [91] = false := by have := HE912.out; simpa using this
          have n3 : ¬ kindT C.ts p = 1 := by
            have h0 := HI.out
            unfold namedT at h0
            simp only [Bool.and_eq_true, decide_eq_true_eq] at h0
            omega
          rw [HT.out, tot_go, atomO, if_neg (by rw [n1]; decide), if_neg (by rw [n2]; decide), if_neg n3, Hpl900.out]
          rfl
        clear HT
        obtain ⟨n0, n1, n2, n3, nf⟩ : BoxF V919 (V902.heap.size) (.int .i64 0) (.string ⟨#[]⟩) (.slice none 0 0) (.int .i64 pl900) := HN920.out.at_ (List.Mem.head _)
        go_upto_region 17 with (fail)
        clear n0 n1 n2 n3 nf
        have HN959 : Hid (NSt C w (World.setCell V919 ⟨V902.heap.size, 0, none⟩ (.int .i64 10)) false p [(V902.heap.size, .int .i64 10, .string ⟨#[]⟩, .slice none 0 0, .int .i64 pl900), zB w.heap.size]) := hj (NSt.set0 (pre := []) HN920.out)
        clear HN920
        generalize World.setCell V919 ⟨V902.heap.size, 0, none⟩ (.int .i64 10) = W960 at HN959 ⊢
        have c961 := rnameq_any C false p W960 HN959.out.st
        go_wp2_with fail
        (with_reducible refine c961.mono ?_)
        clear c961
        rintro e V968 ⟨b962, q963, nm967, hM964, rfl, hs965, ho966⟩
        have HN969 : Hid (NSt C w V968 b962 q963 [(V902.heap.size, .int .i64 10, .string ⟨#[]⟩, .slice none 0 0, .int .i64 pl900), zB w.heap.size]) := hj (HN959.out.call hs965 ho966)
        clear HN959 ho966 hs965
        have HT2 : Hid (R = Tot (fun q => if isT C.ts q [40] then (argsO C.ts C.s.size ex f q).bind fun a r => .ok (.mk 13 nm967 [a] (pl900 : Int)) r else .ok (.mk 10 nm967 [] (pl900 : Int)) q) b962 q963) := by
          show R = _
          rw [HT1.out, hM964.bind]
        clear hM964 HT1
        obtain ⟨n0, n1, n2, n3, nf⟩ : BoxF V968 (V902.heap.size) (.int .i64 10) (.string ⟨#[]⟩) (.slice none 0 0) (.int .i64 pl900) := HN969.out.at_ (List.Mem.head _)
        go_upto_region 18 with (fail)
        clear n0 n1 n2 n3 nf
        have HN970 : Hid (NSt C w (World.setCell V968 ⟨V902.heap.size, 1, none⟩ (.string ⟨nm967.toArray⟩)) b962 q963 [(V902.heap.size, .int .i64 10, .string ⟨nm967.toArray⟩, .slice none 0 0, .int .i64 pl900), zB w.heap.size]) := hj (NSt.set1 (pre := []) HN969.out)
        clear HN969
        generalize World.setCell V968 ⟨V902.heap.size, 1, none⟩ (.string ⟨nm967.toArray⟩) = W971 at HN970 ⊢
        have c972 := ris_any C b962 q963 [40] W971 HN970.out.st
        obtain ⟨E973, hE973⟩ : ∃ E, (!b962 && isT C.ts q963 [40]) = E := ⟨_, rfl⟩
        rw [hE973] at c972
        have HE973 := hj hE973
        clear hE973
        go_wp2_with fail
        (with_reducible refine c972.mono ?_)
        clear c972
        rintro e V975 ⟨rfl, hb974⟩
        have hb974s := HN970.out.st.below hb974
        have hb974o : Ow C.pb W971 V975 := Ow.of_below hb974
        clear hb974
        have HN976 : Hid (NSt C w V975 b962 q963 [(V902.heap.size, .int .i64 10, .string ⟨nm967.toArray⟩, .slice none 0 0, .int .i64 pl900), zB w.heap.size]) := hj (HN970.out.call hb974s hb974o)
        clear HN970 hb974o hb974s
        cases E973
        · have HM : Hid (Mt R b962 q963 (.mk 10 nm967 [] (pl900 : Int))) := by
            show Mt _ _ _ _
            rw [HT2.out, tot_if_f HE973.out]
            exact Mt.ret _ _ _
          clear HT2
          obtain ⟨n0, n1, n2, n3, nf⟩ : BoxF V975 (V902.heap.size) (.int .i64 10) (.string ⟨nm967.toArray⟩) (.slice none 0 0) (.int .i64 pl900) := HN976.out.at_ (List.Mem.head _)
          obtain ⟨r0, r1, r2, r3, rf⟩ : BoxF V975 (w.heap.size) (.int .i64 0) (.string ⟨#[]⟩) (.slice none 0 0) (.int .i64 0) := HN976.out.at_ (List.Mem.tail _ (List.Mem.head _))
          have HN977 : Hid (NSt C w (S4 V975 w.heap.size (.int .i64 10) (.string ⟨nm967.toArray⟩) (.slice none 0 0) (.int .i64 pl900)) b962 q963 [(V902.heap.size, .int .i64 10, .string ⟨nm967.toArray⟩, .slice none 0 0, .int .i64 pl900), (w.heap.size, .int .i64 10, .string ⟨nm967.toArray⟩, .slice none 0 0, .int .i64 pl900)]) := hj (NSt.set4 (pre := [(V902.heap.size, .int .i64 10, .string ⟨nm967.toArray⟩, .slice none 0 0, .int .i64 pl900)]) HN976.out)
          have HW : Hid (w.heap.size ≤ w.heap.size) := hj (Nat.le_refl _)
          have HF : Hid (RFinN C w (atomO C.ts C.s.size ex f) false p (.returned (.agg #[.int .i64 10, .string ⟨nm967.toArray⟩, .slice none 0 0, .int .i64 pl900])) (S4 V975 w.heap.size (.int .i64 10) (.string ⟨nm967.toArray⟩) (.slice none 0 0) (.int .i64 pl900))) := hj (NSt.fin (n := nm967) (l := []) HN977.out HW.out (by rw [HR.out]; exact HM.out) (Rw.nil _ _ [] _))
          clear HN976 HN977 HW HM  
          go_wp2_with fail
          exact ret_node rfl rfl rfl (by simp [go_sem, r0]) (by simp [go_sem, r1]) (by simp [go_sem, r2]) (by simp [go_sem, r3]) HF.out
        · have HT3 : Hid (R = (Tot (argsO C.ts C.s.size ex f) b962 q963).bind fun a r => .ok (.mk 13 nm967 [a] (pl900 : Int)) r) := by
            show R = _
            rw [HT2.out, tot_if_t HE973.out, tot_bind]
          clear HT2
          obtain ⟨n0, n1, n2, n3, nf⟩ : BoxF V975 (V902.heap.size) (.int .i64 10) (.string ⟨nm967.toArray⟩) (.slice none 0 0) (.int .i64 pl900) := HN976.out.at_ (List.Mem.head _)
          go_upto_region 21 with (fail)
          clear n0 n1 n2 n3 nf
          have HN979 : Hid (NSt C w (World.setCell V975 ⟨V902.heap.size, 0, none⟩ (.int .i64 13)) b962 q963 [(V902.heap.size, .int .i64 13, .string ⟨nm967.toArray⟩, .slice none 0 0, .int .i64 pl900), zB w.heap.size]) := hj (NSt.set0 (pre := []) HN976.out)
          clear HN976
          generalize World.setCell V975 ⟨V902.heap.size, 0, none⟩ (.int .i64 13) = W980 at HN979 ⊢
          have c981 := rargs_any C ex HHX.out f hf _ _ _ HN979.out.st (fun e => HNE.out (by rw [HT3.out, e]; rfl))
          unfold RFinN at c981
          go_wp2_with fail
          (with_reducible refine c981.mono ?_)
          clear c981
          rintro e V994 ⟨b982, q983, k988, n989, l990, pp991, y992, cp993, hM984, rfl, hk987, hs985, ho986⟩
          have HN995 : Hid (NSt C w V994 b982 q983 [(V902.heap.size, .int .i64 13, .string ⟨nm967.toArray⟩, .slice none 0 0, .int .i64 pl900), zB w.heap.size]) := hj (HN979.out.call hs985 ho986)
          have HK996 : Hid (Rw w.heap.size V994 [V902.heap.size, w.heap.size] l990 y992) := hj (HN979.out.row HN979.out.ow.size hk987)
          clear HN979 ho986 hs985 hk987
          have HM : Hid (Mt R b982 q983 (.mk 13 nm967 [(.mk k988 n989 l990 pp991)] (pl900 : Int))) := by
            show Mt _ _ _ _
            rw [HT3.out, hM984.bind]
            exact Mt.ret _ _ _
          clear hM984 HT3
          go_upto_region 22 with (fail)
          have HN997 : Hid (NSt C w (World.alloc V994 (.cells #[.int .i64 k988, .string ⟨n989.toArray⟩, .slice y992 l990.length cp993, .int .i64 pp991] 53)) b982 q983 [nB V994.heap.size k988 n989 y992 l990 cp993 pp991, (V902.heap.size, .int .i64 13, .string ⟨nm967.toArray⟩, .slice none 0 0, .int .i64 pl900), zB w.heap.size]) := hj (HN995.out.alloc _ _ _ _)
          have HK999 : Hid (Rw w.heap.size (World.alloc V994 (.cells #[.int .i64 k988, .string ⟨n989.toArray⟩, .slice y992 l990.length cp993, .int .i64 pp991] 53)) [V994.heap.size, V902.heap.size, w.heap.size] l990 y992) := hj (HK996.out.alloc _)
          clear HN995 HK996
          generalize World.alloc V994 (.cells #[.int .i64 k988, .string ⟨n989.toArray⟩, .slice y992 l990.length cp993, .int .i64 pp991] 53) = W998 at HN997 HK999 ⊢
          obtain ⟨u00, u01, u02, u03, u0f⟩ : BoxF W998 (V994.heap.size) (.int .i64 k988) (.string ⟨n989.toArray⟩) (.slice y992 l990.length cp993) (.int .i64 pp991) := HN997.out.at_ (List.Mem.head _)
          obtain ⟨n0, n1, n2, n3, nf⟩ : BoxF W998 (V902.heap.size) (.int .i64 13) (.string ⟨nm967.toArray⟩) (.slice none 0 0) (.int .i64 pl900) := HN997.out.at_ (List.Mem.tail _ (List.Mem.head _))
          have na0 := fun o => al_cell n0 o
          have na1 := fun o => al_cell n1 o
          have na2 := fun o => al_cell n2 o
          have na3 := fun o => al_cell n3 o
          have naf : ∀ ob o, (World.alloc W998 ob).frozen? ⟨V902.heap.size, o, none⟩ = false := fun ob o => ((HN997.out.bx _ (List.Mem.tail _ (List.Mem.head _))).2.alloc ob).facts.2.2.2.2 o
          go_upto_region 27 with (fail)
          clear n0 n1 n2 n3 nf u00 u01 u02 u03 u0f
          clear na0 na1 na2 na3 naf
          have HK1000 : Hid (Rw w.heap.size (World.alloc W998 (.cells #[.int .i64 k988, .string ⟨n989.toArray⟩, .slice y992 l990.length cp993, .int .i64 pp991] 53)) [V994.heap.size, V902.heap.size, w.heap.size] [(.mk k988 n989 l990 pp991)] (some ⟨W998.heap.size, 0, none⟩)) := hj (Rw.one HN997.out HN997.out.ow.size HK999.out)
          have HN1001 : Hid (NSt C w (World.alloc W998 (.cells #[.int .i64 k988, .string ⟨n989.toArray⟩, .slice y992 l990.length cp993, .int .i64 pp991] 53)) b982 q983 [nB V994.heap.size k988 n989 y992 l990 cp993 pp991, (V902.heap.size, .int .i64 13, .string ⟨nm967.toArray⟩, .slice none 0 0, .int .i64 pl900), zB w.heap.size]) := hj (HN997.out.blk _)
          clear HN997 HK999
          have HN1002 : Hid (NSt C w (World.setCell (World.alloc W998 (.cells #[.int .i64 k988, .string ⟨n989.toArray⟩, .slice y992 l990.length cp993, .int .i64 pp991] 53)) ⟨V902.heap.size, 2, none⟩ (.slice (some ⟨W998.heap.size, 0, none⟩) 1 1)) b982 q983 [nB V994.heap.size k988 n989 y992 l990 cp993 pp991, (V902.heap.size, .int .i64 13, .string ⟨nm967.toArray⟩, .slice (some ⟨W998.heap.size, 0, none⟩) 1 1, .int .i64 pl900), zB w.heap.size]) := hj (NSt.set2 (pre := [nB V994.heap.size k988 n989 y992 l990 cp993 pp991]) HN1001.out)
          have HK1004 : Hid (Rw w.heap.size (World.setCell (World.alloc W998 (.cells #[.int .i64 k988, .string ⟨n989.toArray⟩, .slice y992 l990.length cp993, .int .i64 pp991] 53)) ⟨V902.heap.size, 2, none⟩ (.slice (some ⟨W998.heap.size, 0, none⟩) 1 1)) [V994.heap.size, V902.heap.size, w.heap.size] [(.mk k988 n989 l990 pp991)] (some ⟨W998.heap.size, 0, none⟩)) := hj (HK1000.out.set (List.Mem.tail _ (List.Mem.head _)))
          clear HN1001 HK1000
          generalize World.setCell (World.alloc W998 (.cells #[.int .i64 k988, .string ⟨n989.toArray⟩, .slice y992 l990.length cp993, .int .i64 pp991] 53)) ⟨V902.heap.size, 2, none⟩ (.slice (some ⟨W998.heap.size, 0, none⟩) 1 1) = W1003 at HN1002 HK1004 ⊢
          obtain ⟨n0, n1, n2, n3, nf⟩ : BoxF W1003 (V902.heap.size) (.int .i64 13) (.string ⟨nm967.toArray⟩) (.slice (some ⟨W998.heap.size, 0, none⟩) 1 1) (.int .i64 pl900) := HN1002.out.at_ (List.Mem.tail _ (List.Mem.head _))
          obtain ⟨r0, r1, r2, r3, rf⟩ : BoxF W1003 (w.heap.size) (.int .i64 0) (.string ⟨#[]⟩) (.slice none 0 0) (.int .i64 0) := HN1002.out.at_ (List.Mem.tail _ (List.Mem.tail _ (List.Mem.head _)))
          have HN1005 : Hid (NSt C w (S4 W1003 w.heap.size (.int .i64 13) (.string ⟨nm967.toArray⟩) (.slice (some ⟨W998.heap.size, 0, none⟩) 1 1) (.int .i64 pl900)) b982 q983 [nB V994.heap.size k988 n989 y992 l990 cp993 pp991, (V902.heap.size, .int .i64 13, .string ⟨nm967.toArray⟩, .slice (some ⟨W998.heap.size, 0, none⟩) 1 1, .int .i64 pl900), (w.heap.size, .int .i64 13, .string ⟨nm967.toArray⟩, .slice (some ⟨W998.heap.size, 0, none⟩) 1 1, .int .i64 pl900)]) := hj (NSt.set4 (pre := [nB V994.heap.size k988 n989 y992 l990 cp993 pp991, (V902.heap.size, .int .i64 13, .string ⟨nm967.toArray⟩, .slice (some ⟨W998.heap.size, 0, none⟩) 1 1, .int .i64 pl900)]) HN1002.out)
          have HK1006 : Hid (Rw w.heap.size (S4 W1003 w.heap.size (.int .i64 13) (.string ⟨nm967.toArray⟩) (.slice (some ⟨W998.heap.size, 0, none⟩) 1 1) (.int .i64 pl900)) [V994.heap.size, V902.heap.size, w.heap.size] [(.mk k988 n989 l990 pp991)] (some ⟨W998.heap.size, 0, none⟩)) := hj (HK1004.out.set4 (List.Mem.tail _ (List.Mem.tail _ (List.Mem.head _))))
          have HW : Hid (w.heap.size ≤ w.heap.size) := hj (Nat.le_refl _)
          have HF : Hid (RFinN C w (atomO C.ts C.s.size ex f) false p (.returned (.agg #[.int .i64 13, .string ⟨nm967.toArray⟩, .slice (some ⟨W998.heap.size, 0, none⟩) 1 1, .int .i64 pl900])) (S4 W1003 w.heap.size (.int .i64 13) (.string ⟨nm967.toArray⟩) (.slice (some ⟨W998.heap.size, 0, none⟩) 1 1) (.int .i64 pl900))) := hj (NSt.fin (n := nm967) (l := [(.mk k988 n989 l990 pp991)]) HN1005.out HW.out (by rw [HR.out]; exact HM.out) HK1006.out)
          clear HN1002 HN1005 HW HM HK1006 HK1004
          go_wp2_with fail
          exact ret_node rfl rfl rfl (by simp [go_sem, r0]) (by simp [go_sem, r1]) (by simp [go_sem, r2]) (by simp [go_sem, r3]) HF.out
    · obtain ⟨rfl, hHI⟩ : b = false ∧ isT C.ts p [91] = true := by
        have := HE912.out
        cases b <;> simp_all
      have HI := hj hHI
      clear hHI
      have HT1 : Hid (R = (Tot (rowG C.ts C.s.size ex f [93]) false (p + 1)).bind fun l q => .ok (.mk 11 [] l (pl900 : Int)) q) := by
        show R = _
        have n1 : isT C.ts p [40] = false := by have := HE907.out; simpa using this
        rw [HT.out, tot_go, atomO, if_neg (by rw [n1]; decide), if_pos HI.out, Hpl900.out]
        rfl
      clear HT
      obtain ⟨x10071, x10072, x10073, x10074⟩ : V919.cell? ⟨C.pb, 2, none⟩ = some (.int .i64 p) ∧ V919.frozen? ⟨C.pb, 2, none⟩ = false ∧ p < C.ts.length ∧ C.ts.length ≤ 4096 := ⟨HN920.out.st.cellsF.2.2.1, HN920.out.st.cellsF.2.2.2.2.1, isT_lt HI.out, HN920.out.st.len⟩
      have x10075 : IntKind.i64.wrap ((p : Int) + 1) = (p : Int) + 1 := IntWalk.i64_in _ (by omega)
      have x10076 := hj x10073
      clear x10073 x10074
      go_upto_region 13 with (fail)
      clear x10071 x10072 x10075
      have HN1008 : Hid (NSt C w (World.setCell V919 ⟨C.pb, 2, none⟩ (.int .i64 ((p : Int) + 1))) false (p + 1) [(V902.heap.size, .int .i64 0, .string ⟨#[]⟩, .slice none 0 0, .int .i64 pl900), zB w.heap.size]) := hj (HN920.out.step (q := p + 1) x10076.out)
      clear HN920
      generalize World.setCell V919 ⟨C.pb, 2, none⟩ (.int .i64 ((p : Int) + 1)) = W1009 at HN1008 ⊢
      obtain ⟨n0, n1, n2, n3, nf⟩ : BoxF W1009 (V902.heap.size) (.int .i64 0) (.string ⟨#[]⟩) (.slice none 0 0) (.int .i64 pl900) := HN1008.out.at_ (List.Mem.head _)
      go_upto_region 14 with (fail)
      clear n0 n1 n2 n3 nf
      have HN1010 : Hid (NSt C w (World.setCell W1009 ⟨V902.heap.size, 0, none⟩ (.int .i64 11)) false (p + 1) [(V902.heap.size, .int .i64 11, .string ⟨#[]⟩, .slice none 0 0, .int .i64 pl900), zB w.heap.size]) := hj (NSt.set0 (pre := []) HN1008.out)
      clear HN1008
      generalize World.setCell W1009 ⟨V902.heap.size, 0, none⟩ (.int .i64 11) = W1011 at HN1010 ⊢
      have c1012 := rrow_x (rlist_any C ex HHX.out f hf [93] _ _ _ HN1010.out.st (fun e => HNE.out (by rw [HT1.out, e]; rfl))) (fun _ => True) (fun _ _ => trivial)
      go_wp2_with fail
      (with_reducible refine c1012.mono ?_)
      clear c1012
      rintro e V1022 ⟨b1013, q1014, l1019, y1020, cp1021, hM1015, rfl, hk1018, hs1016, ho1017, -⟩
      have HN1023 : Hid (NSt C w V1022 b1013 q1014 [(V902.heap.size, .int .i64 11, .string ⟨#[]⟩, .slice none 0 0, .int .i64 pl900), zB w.heap.size]) := hj (HN1010.out.call hs1016 ho1017)
      have HK1024 : Hid (Rw w.heap.size V1022 [V902.heap.size, w.heap.size] l1019 y1020) := hj (HN1010.out.row HN1010.out.ow.size hk1018)
      clear HN1010 ho1017 hs1016 hk1018
      have HM : Hid (Mt R b1013 q1014 (.mk 11 [] l1019 (pl900 : Int))) := by
        show Mt _ _ _ _
        rw [HT1.out, hM1015.bind]
        exact Mt.ret _ _ _
      clear hM1015 HT1
      obtain ⟨n0, n1, n2, n3, nf⟩ : BoxF V1022 (V902.heap.size) (.int .i64 11) (.string ⟨#[]⟩) (.slice none 0 0) (.int .i64 pl900) := HN1023.out.at_ (List.Mem.head _)
      go_upto_region 27 with (fail)
      clear n0 n1 n2 n3 nf
      have HN1025 : Hid (NSt C w (World.setCell V1022 ⟨V902.heap.size, 2, none⟩ (.slice y1020 l1019.length cp1021)) b1013 q1014 [(V902.heap.size, .int .i64 11, .string ⟨#[]⟩, .slice y1020 l1019.length cp1021, .int .i64 pl900), zB w.heap.size]) := hj (NSt.set2 (pre := []) HN1023.out)
      have HK1027 : Hid (Rw w.heap.size (World.setCell V1022 ⟨V902.heap.size, 2, none⟩ (.slice y1020 l1019.length cp1021)) [V902.heap.size, w.heap.size] l1019 y1020) := hj (HK1024.out.set (List.Mem.head _))
      clear HN1023 HK1024
      generalize World.setCell V1022 ⟨V902.heap.size, 2, none⟩ (.slice y1020 l1019.length cp1021) = W1026 at HN1025 HK1027 ⊢
      obtain ⟨n0, n1, n2, n3, nf⟩ : BoxF W1026 (V902.heap.size) (.int .i64 11) (.string ⟨#[]⟩) (.slice y1020 l1019.length cp1021) (.int .i64 pl900) := HN1025.out.at_ (List.Mem.head _)
      obtain ⟨r0, r1, r2, r3, rf⟩ : BoxF W1026 (w.heap.size) (.int .i64 0) (.string ⟨#[]⟩) (.slice none 0 0) (.int .i64 0) := HN1025.out.at_ (List.Mem.tail _ (List.Mem.head _))
      have HN1028 : Hid (NSt C w (S4 W1026 w.heap.size (.int .i64 11) (.string ⟨#[]⟩) (.slice y1020 l1019.length cp1021) (.int .i64 pl900)) b1013 q1014 [(V902.heap.size, .int .i64 11, .string ⟨#[]⟩, .slice y1020 l1019.length cp1021, .int .i64 pl900), (w.heap.size, .int .i64 11, .string ⟨#[]⟩, .slice y1020 l1019.length cp1021, .int .i64 pl900)]) := hj (NSt.set4 (pre := [(V902.heap.size, .int .i64 11, .string ⟨#[]⟩, .slice y1020 l1019.length cp1021, .int .i64 pl900)]) HN1025.out)
      have HK1029 : Hid (Rw w.heap.size (S4 W1026 w.heap.size (.int .i64 11) (.string ⟨#[]⟩) (.slice y1020 l1019.length cp1021) (.int .i64 pl900)) [V902.heap.size, w.heap.size] l1019 y1020) := hj (HK1027.out.set4 (List.Mem.tail _ (List.Mem.head _)))
      have HW : Hid (w.heap.size ≤ w.heap.size) := hj (Nat.le_refl _)
      have HF : Hid (RFinN C w (atomO C.ts C.s.size ex f) false p (.returned (.agg #[.int .i64 11, .string ⟨#[]⟩, .slice y1020 l1019.length cp1021, .int .i64 pl900])) (S4 W1026 w.heap.size (.int .i64 11) (.string ⟨#[]⟩) (.slice y1020 l1019.length cp1021) (.int .i64 pl900))) := hj (NSt.fin (n := []) (l := l1019) HN1028.out HW.out (by rw [HR.out]; exact HM.out) HK1029.out)
      clear HN1025 HN1028 HW HM HK1029 HK1027
      go_wp2_with fail
      exact ret_node rfl rfl rfl (by simp [go_sem, r0]) (by simp [go_sem, r1]) (by simp [go_sem, r2]) (by simp [go_sem, r3]) HF.out
  · obtain ⟨rfl, hHI⟩ : b = false ∧ isT C.ts p [40] = true := by
      have := HE907.out
      cases b <;> simp_all
    have HI := hj hHI
    clear hHI
    have HT1 : Hid (R = (Tot ex false (p + 1)).bind fun x q => (takeP C.ts C.s.size [41] q).bind fun _ e => .ok x e) := by
      show R = _
      rw [HT.out, tot_go, atomO, if_pos HI.out]
      rfl
    clear HT
    obtain ⟨x10301, x10302, x10303, x10304⟩ : V919.cell? ⟨C.pb, 2, none⟩ = some (.int .i64 p) ∧ V919.frozen? ⟨C.pb, 2, none⟩ = false ∧ p < C.ts.length ∧ C.ts.length ≤ 4096 := ⟨HN920.out.st.cellsF.2.2.1, HN920.out.st.cellsF.2.2.2.2.1, isT_lt HI.out, HN920.out.st.len⟩
    have x10305 : IntKind.i64.wrap ((p : Int) + 1) = (p : Int) + 1 := IntWalk.i64_in _ (by omega)
    have x10306 := hj x10303
    clear x10303 x10304
    go_upto_region 8 with (fail)
    clear x10301 x10302 x10305
    have HN1031 : Hid (NSt C w (World.setCell V919 ⟨C.pb, 2, none⟩ (.int .i64 ((p : Int) + 1))) false (p + 1) [(V902.heap.size, .int .i64 0, .string ⟨#[]⟩, .slice none 0 0, .int .i64 pl900), zB w.heap.size]) := hj (HN920.out.step (q := p + 1) x10306.out)
    clear HN920
    generalize World.setCell V919 ⟨C.pb, 2, none⟩ (.int .i64 ((p : Int) + 1)) = W1032 at HN1031 ⊢
    have c1033 := HHX.out _ _ _ HN1031.out.st (fun e => HNE.out (by rw [HT1.out, e]; rfl)) ⟨_, fun e => HNE.out (by rw [HT1.out, tot_go, e]; rfl)⟩
    unfold RFinN at c1033
    go_wp2_with fail
    (with_reducible refine c1033.mono ?_)
    clear c1033
    rintro e V1046 ⟨b1034, q1035, k1040, n1041, l1042, pp1043, y1044, cp1045, hM1036, rfl, hk1039, hs1037, ho1038⟩
    have HN1047 : Hid (NSt C w V1046 b1034 q1035 [(V902.heap.size, .int .i64 0, .string ⟨#[]⟩, .slice none 0 0, .int .i64 pl900), zB w.heap.size]) := hj (HN1031.out.call hs1037 ho1038)
    have HK1048 : Hid (Rw w.heap.size V1046 [V902.heap.size, w.heap.size] l1042 y1044) := hj (HN1031.out.row HN1031.out.ow.size hk1039)
    clear HN1031 ho1038 hs1037 hk1039
    have HT2 : Hid (R = (Tot (takeP C.ts C.s.size [41]) b1034 q1035).bind fun _ e => .ok (.mk k1040 n1041 l1042 pp1043) e) := by
      show R = _
      rw [HT1.out, hM1036.bind, ← tot_bind]
    clear hM1036 HT1
    go_upto_region 9 with (fail)
    have HN1049 : Hid (NSt C w (World.alloc V1046 (.cells #[.int .i64 k1040, .string ⟨n1041.toArray⟩, .slice y1044 l1042.length cp1045, .int .i64 pp1043] 53)) b1034 q1035 [nB V1046.heap.size k1040 n1041 y1044 l1042 cp1045 pp1043, (V902.heap.size, .int .i64 0, .string ⟨#[]⟩, .slice none 0 0, .int .i64 pl900), zB w.heap.size]) := hj (HN1047.out.alloc _ _ _ _)
    have HK1051 : Hid (Rw w.heap.size (World.alloc V1046 (.cells #[.int .i64 k1040, .string ⟨n1041.toArray⟩, .slice y1044 l1042.length cp1045, .int .i64 pp1043] 53)) [V1046.heap.size, V902.heap.size, w.heap.size] l1042 y1044) := hj (HK1048.out.alloc _)
    clear HN1047 HK1048
    generalize World.alloc V1046 (.cells #[.int .i64 k1040, .string ⟨n1041.toArray⟩, .slice y1044 l1042.length cp1045, .int .i64 pp1043] 53) = W1050 at HN1049 HK1051 ⊢
    have c1052 := rtake_any C b1034 q1035 [41] W1050 HN1049.out.st
    obtain ⟨pl1053, hpl1053⟩ : ∃ pl, placeT C.ts C.s.size q1035 = pl := ⟨_, rfl⟩
    rw [hpl1053] at c1052
    have Hpl1053 := hj hpl1053
    clear hpl1053
    go_wp2_with fail
    (with_reducible refine c1052.mono ?_)
    clear c1052
    rintro e V1060 ⟨b1054, q1055, a1059, hM1056, rfl, hs1057, ho1058⟩
    have hM1056' := hM1056.place
    rw [Hpl1053.out] at hM1056'
    clear hM1056
    have HN1061 : Hid (NSt C w V1060 b1054 q1055 [nB V1046.heap.size k1040 n1041 y1044 l1042 cp1045 pp1043, (V902.heap.size, .int .i64 0, .string ⟨#[]⟩, .slice none 0 0, .int .i64 pl900), zB w.heap.size]) := hj (HN1049.out.call hs1057 ho1058)
    have HK1062 : Hid (Rw w.heap.size V1060 [V1046.heap.size, V902.heap.size, w.heap.size] l1042 y1044) := hj (HK1051.out.call HN1049.out.pb ho1058)
    clear HN1049 HK1051 ho1058 hs1057
    have HM : Hid (Mt R b1054 q1055 (.mk k1040 n1041 l1042 pp1043)) := by
      show Mt _ _ _ _
      rw [HT2.out, hM1056'.bind]
      exact Mt.ret _ _ _
    clear hM1056' HT2
    obtain ⟨x0, x1, x2, x3, xf⟩ : BoxF V1060 (V1046.heap.size) (.int .i64 k1040) (.string ⟨n1041.toArray⟩) (.slice y1044 l1042.length cp1045) (.int .i64 pp1043) := HN1061.out.at_ (List.Mem.head _)
    obtain ⟨r0, r1, r2, r3, rf⟩ : BoxF V1060 (w.heap.size) (.int .i64 0) (.string ⟨#[]⟩) (.slice none 0 0) (.int .i64 0) := HN1061.out.at_ (List.Mem.tail _ (List.Mem.tail _ (List.Mem.head _)))
    have HN1063 : Hid (NSt C w (S4 V1060 w.heap.size (.int .i64 k1040) (.string ⟨n1041.toArray⟩) (.slice y1044 l1042.length cp1045) (.int .i64 pp1043)) b1054 q1055 [nB V1046.heap.size k1040 n1041 y1044 l1042 cp1045 pp1043, (V902.heap.size, .int .i64 0, .string ⟨#[]⟩, .slice none 0 0, .int .i64 pl900), nB w.heap.size k1040 n1041 y1044 l1042 cp1045 pp1043]) := hj (NSt.set4 (pre := [nB V1046.heap.size k1040 n1041 y1044 l1042 cp1045 pp1043, (V902.heap.size, .int .i64 0, .string ⟨#[]⟩, .slice none 0 0, .int .i64 pl900)]) HN1061.out)
    have HK1064 : Hid (Rw w.heap.size (S4 V1060 w.heap.size (.int .i64 k1040) (.string ⟨n1041.toArray⟩) (.slice y1044 l1042.length cp1045) (.int .i64 pp1043)) [V1046.heap.size, V902.heap.size, w.heap.size] l1042 y1044) := hj (HK1062.out.set4 (List.Mem.tail _ (List.Mem.tail _ (List.Mem.head _))))
    have HW : Hid (w.heap.size ≤ w.heap.size) := hj (Nat.le_refl _)
    have HF : Hid (RFinN C w (atomO C.ts C.s.size ex f) false p (.returned (.agg #[.int .i64 k1040, .string ⟨n1041.toArray⟩, .slice y1044 l1042.length cp1045, .int .i64 pp1043])) (S4 V1060 w.heap.size (.int .i64 k1040) (.string ⟨n1041.toArray⟩) (.slice y1044 l1042.length cp1045) (.int .i64 pp1043))) := hj (NSt.fin (n := n1041) (l := l1042) HN1063.out HW.out (by rw [HR.out]; exact HM.out) HK1064.out)
    clear HN1061 HN1063 HW HM HK1064 HK1062
    go_wp2_with fail
    exact ret_node rfl rfl rfl (by simp [go_sem, r0]) (by simp [go_sem, r1]) (by simp [go_sem, r2]) (by simp [go_sem, r3]) HF.out
end Go.Proofs.YtpbkeamjdolpgaaGreatDoor
