/- The walk of TreeBlanks. -/
import Derived.Test.YtpbkeamjdolpgaaGreatDoorB26
import Derived.Test.YtpbkeamjdolpgaaGreatDoorTreeBl
namespace Go.Proofs.YtpbkeamjdolpgaaGreatDoor
open Go.RowKit Go.Lib Go.Shelf Go.Sort

theorem Tryz.infoStrB : (Tryz.prog.info? 9).map (fun i => (i.zero, i.size, i.bytes)) = some (some (.string ⟨#[]⟩), 1, 16) := by kernel_rfl
/-- A row's beginning, and what stands behind it. -/
theorem NdRow.left {w : World} {ok : Nat → Prop} : ∀ {a b : List Nd} {y : Option Addr}, NdRow w ok (a ++ b) y → NdRow w ok a y
  | [], _, _, _ => trivial
  | _ :: _, _, _, h => by
    obtain ⟨B, o, h1, h2, h3⟩ := h
    exact ⟨B, o, h1, h2, NdRow.left h3⟩
theorem NdRow.right {w : World} {ok : Nat → Prop} : ∀ {a b : List Nd} {y : Option Addr} , NdRow w ok (a ++ b) y → b ≠ [] → ∃ B o, y = some ⟨B, o, none⟩ ∧ NdRow w ok b (some ⟨B, o + a.length * 4, none⟩)
  | [], [], _, _, hb => absurd rfl hb
  | [], _ :: _, _, h, _ => by
    obtain ⟨B, o, h1, h2, h3⟩ := h
    exact ⟨B, o, h1, B, o, rfl, h2, h3⟩
  | x :: a, b, y, h, hb => by
    obtain ⟨B, o, h1, h2, h3⟩ := h
    obtain ⟨B', o', h4, h5⟩ := NdRow.right h3 hb
    cases h4
    refine ⟨B, o, h1, ?_⟩
    rw [List.length_cons, show o + (a.length + 1) * 4 = o + 4 + a.length * 4 by omega]
    exact h5
def bytesA (a : List Tk) : List ByteArray := a.map fun t => ⟨t.2.1.toArray⟩
theorem bytesA_join (a : List Tk) : (bytesA a).map (·.data.toList) = a.map fun t => t.2.1 := by
  unfold bytesA
  rw [List.map_map]
  exact List.map_congr_left fun t _ => by simp

set_option maxHeartbeats 4000000 in
set_option maxRecDepth 100000 in
theorem blanks_far (s t : ByteArray) (h : 8192 < s.size ∨ 8192 < t.size) (hs : s.size < 2 ^ 62) (ht : t.size < 2 ^ 62) (w : World) (hG : GlT w) :
    Calls Tryz.prog 9 #[.string s, .string t] w fun e w' => e = .returned (.bool true) ∧ Below w.heap.size w w' := by
  have c0 := works_any w hG
  have HG := Lib.hid hG
  clear hG
  by_cases h1 : 8192 < s.size
  · have Q : (8192 : Int) < (s.size : Int) := by omega
    clear h h1
    go_enter Tryz.func9, Tryz.ntmps9
    go_wp2_with fail
    refine c0.mono ?_
    clear c0
    rintro e w1 ⟨rfl, hb1⟩
    have c1 := works_any w1 (HG.out.below hb1)
    go_wp2_with fail
    refine c1.mono ?_
    clear c1
    rintro e w2 ⟨rfl, hb2⟩
    go_wp2_with fail
    go_ret
    exact ⟨rfl, tr hb1 hb2⟩
  · have Q : ¬ (8192 : Int) < (s.size : Int) := by omega
    have Q2 : (8192 : Int) < (t.size : Int) := by omega
    clear h h1
    go_enter Tryz.func9, Tryz.ntmps9
    go_wp2_with fail
    refine c0.mono ?_
    clear c0
    rintro e w1 ⟨rfl, hb1⟩
    have c1 := works_any w1 (HG.out.below hb1)
    go_wp2_with fail
    refine c1.mono ?_
    clear c1
    rintro e w2 ⟨rfl, hb2⟩
    go_wp2_with fail
    go_ret
    exact ⟨rfl, tr hb1 hb2⟩

set_option maxHeartbeats 8000000 in
set_option maxRecDepth 100000 in
theorem blanks_near (s t : ByteArray) (hs : s.size ≤ 8192) (ht : t.size ≤ 8192) (w : World) (hG : GlT w) :
    Calls Tryz.prog 9 #[.string s, .string t] w fun e w' => e = .returned (.bool true) ∧ Below w.heap.size w w' := by
  have c0 := works_any w hG
  have HG := Lib.hid hG
  have HS := Lib.hid hs
  have HT := Lib.hid ht
  have QS : ¬ (8192 : Int) < (s.size : Int) := by omega
  have QT : ¬ (8192 : Int) < (t.size : Int) := by omega
  obtain ⟨i0, hi, hz0, hz1, hz2⟩ := info_parts Tryz.infoStrB
  clear hG hs ht
  go_enter Tryz.func9, Tryz.ntmps9
  go_wp2_with fail
  refine c0.mono ?_
  clear c0
  rintro e w1 ⟨rfl, hb1⟩
  have HB1 := Lib.hid hb1
  have c1 := parse_any s w1 (HG.out.1.below hb1)
  obtain ⟨P, hP⟩ : ∃ P, parseR s.data.toList = P := ⟨_, rfl⟩
  obtain ⟨P', hP'⟩ : ∃ P, parseR t.data.toList = P := ⟨_, rfl⟩
  rw [hP] at c1
  have HP := Lib.hid hP
  have HP' := Lib.hid hP'
  clear hb1 hP hP'
  go_wp2_with fail
  refine c1.mono ?_
  clear c1
  cases P with
  | error f =>
    rintro e w2 ⟨hb2, b, hb, rfl, hf⟩
    have HB2 := Lib.hid (tr HB1.out hb2)
    have c2 := parse_any t w2 (HG.out.1.below HB2.out)
    rw [HP'.out] at c2
    clear hb2 hb hf
    go_wp2_with fail
    refine c2.mono ?_
    clear c2
    cases P' with
    | error f' =>
      rintro e w3 ⟨hb3, b', hb', rfl, hf'⟩
      have HB3 := Lib.hid (tr HB2.out hb3)
      clear hb3 hb' hf'
      go_wp2_with fail
      go_ret
      exact ⟨rfl, HB3.out⟩
    | ok l' =>
      rintro e w3 ⟨hb3, y', c', rfl, hrow', -⟩
      have HB3 := Lib.hid (tr HB2.out hb3)
      clear hb3 hrow'
      go_wp2_with fail
      go_ret
      exact ⟨rfl, HB3.out⟩
  | ok l =>
    rintro e w2 ⟨hb2, y, c, rfl, hrow, -⟩
    have HB2 := Lib.hid (tr HB1.out hb2)
    have HR := Lib.hid hrow
    have c2 := parse_any t w2 (HG.out.1.below HB2.out)
    rw [HP'.out] at c2
    obtain ⟨n, hn⟩ : ∃ n, l.length = n := ⟨_, rfl⟩
    have HN := Lib.hid hn
    rw [hn]
    clear hb2 hrow hn
    go_wp2_with fail
    refine c2.mono ?_
    clear c2
    cases P' with
    | error f' =>
      rintro e w3 ⟨hb3, b', hb', rfl, hf'⟩
      have HB3 := Lib.hid (tr HB2.out hb3)
      clear hb3 hb' hf'
      go_wp2_with fail
      go_ret
      exact ⟨rfl, HB3.out⟩
    | ok m =>
      rintro e w3 ⟨hb3, y', c', rfl, hrow', -⟩
      have HB3 := Lib.hid (tr HB2.out hb3)
      have HR3 := Lib.hid (HR.out.below hb3)
      have HR3' := Lib.hid hrow'
      obtain ⟨a, ha, hlo, hbo⟩ := blanks_law (by rw [← Lib.size_eq]; exact HS.out) (by rw [← Lib.size_eq]; exact HT.out) HP.out HP'.out
      have c3 := tokens_all s w3 (HG.out.1.below HB3.out)
      rw [ha] at c3
      have HA := Lib.hid ha
      have HLO := Lib.hid hlo
      have HBO := Lib.hid hbo
      obtain ⟨n', hn'⟩ : ∃ n, m.length = n := ⟨_, rfl⟩
      have HN' := Lib.hid hn'
      rw [hn']
      have hna : Hid (a.length ≤ 4096) := tokensL_len _ _ ha
      clear hb3 hrow' hn' ha hlo hbo
      go_wp2_with fail
      refine c3.mono ?_
      clear c3
      rintro e w4 ⟨hb4, v, rfl, hown⟩
      obtain ⟨x, cx, rfl⟩ := own_shape hown
      have HTR := Lib.hid (tokRow_own hown)
      have HB4 := Lib.hid (tr HB3.out hb4)
      have HR4 := Lib.hid (HR3.out.below hb4)
      have HR4' := Lib.hid (HR3'.out.below hb4)
      obtain ⟨k, hk⟩ : ∃ k, a.length = k := ⟨_, rfl⟩
      have HK := Lib.hid hk
      have hk4 : k ≤ 4096 := by rw [← hk]; exact hna.out
      rw [hk]
      clear hb4 hown hk hna
      go_wp2_with fail
      go_loopw [11, 56] (fun v i wx => ∃ j : Nat, i = .int .i64 j ∧ j ≤ k ∧ Below w4.heap.size w4 wx ∧ wx.ownsRow w4.heap.size 9 1 v j ((a.take j).map fun t => .string ⟨t.2.1.toArray⟩)) (fun _ i _ => k - (RowKit.intOf i).toNat)
      case atStart => exact ⟨0, rfl, Nat.zero_le _, Below.refl _ _, World.ownsRow_nil _ _ _ _⟩
      case round =>
        obtain ⟨j, rfl, hj, hb, hown⟩ := hrel
        by_cases hlt : j < k
        · obtain ⟨u, hu⟩ : ∃ u, a[j]? = some u := ⟨a[j]'(by have := HK.out; omega), List.getElem?_eq_getElem _⟩
          obtain ⟨g, rfl, k0, k1, k2⟩ := (HTR.out.below hb) j u hu
          have HM : Hid ((a.take (j + 1)).map (fun t => Value.string ⟨t.2.1.toArray⟩) = (a.take j).map (fun t => Value.string ⟨t.2.1.toArray⟩) ++ [.string ⟨u.2.1.toArray⟩]) := by
            show _ = _
            rw [List.take_add_one, hu]
            simp
          obtain ⟨va, vc, rfl⟩ := own_shape hown
          have hlt' : (j : Int) < (k : Int) := by omega
          clear hu
          go_wp2_with (at_builtin; refine wpList_append_own _ rfl (.tmp 60) (.tmp 63) 44 rfl (w4.heap.size) 9 i0 (.string ⟨#[]⟩) 1 16 Tryz.underlying44 hi hz0 hz1 hz2 rfl (by decide) _ _ _ rfl ((hown.alloc _).alloc _) ⟨wr.heap.size + 1, 0, none⟩ 1 1 [.string ⟨u.2.1.toArray⟩] rfl rfl (by simpa using cell_one_new (wr.alloc (.cells #[.int .i64 u.1, .string ⟨u.2.1.toArray⟩, .int .i64 u.2.2] 46)) _ _) (fun x hx => by simp at hx; rcases hx with rfl; rfl) (by unfold maxLen; omega) (by omega) (by have := hb.size; simp; omega) ?_; intro v' w5 hown' hgrow5 hnil5)
          have hbw5 : Below w4.heap.size w4 w5 := Below.grown ((hb.alloc hb.size _).alloc (by have := hb.size; simp; omega) _) hgrow5 (by have := hb.size; simp; omega) (fun j hj => (hown.lt _ hj).1)
          go_roundw
          case rel => exact ⟨j + 1, by go_num, by omega, hbw5, by rw [HM.out]; simpa using hown'⟩
          case measure => simp [RowKit.intOf]; omega
        · obtain rfl : j = k := by omega
          have hlt' : ¬ (j : Int) < (j : Int) := by omega
          have HR5 := Lib.hid (HR4.out.below hb)
          have HR5' := Lib.hid (HR4'.out.below hb)
          have HB5 := Lib.hid (tr HB4.out hb)
          have hal := HK.out
          rw [List.take_of_length_le (by omega)] at hown
          have hW : Lib.join ((bytesA a).map (·.data.toList)) sepW = Lib.join (a.map fun t => t.2.1) sepW := by rw [bytesA_join]
          have hll := loose_len HA.out (by rw [← Lib.size_eq]; exact HS.out)
          have hJl : (Lib.join (a.map fun t => t.2.1) sepW).length ≤ 57400 := by
            unfold looseT at hll
            simp only [List.length_append] at hll
            omega
          have cJ : Calls Tryz.prog 31 #[u11, .string ⟨#[32, 47, 47, 32, 109, 111, 114, 101, 32, 255, 10, 9]⟩] wr fun e w' => e = .returned (.string ⟨(Lib.join (a.map fun t => t.2.1) sepW).toArray⟩) ∧ Below wr.heap.size wr w' := by
            obtain ⟨va, vc, rfl⟩ := own_shape hown
            rcases Nat.eq_zero_or_pos j with h0 | h0
            · have : a = [] := List.length_eq_zero_iff.1 (by omega)
              subst this
              subst h0
              refine (Tryz.strings_Join_none va vc ⟨#[32, 47, 47, 32, 109, 111, 114, 101, 32, 255, 10, 9]⟩ wr).mono ?_
              rintro e w' ⟨rfl, rfl⟩
              exact ⟨rfl, Below.refl _ _⟩
            · obtain ⟨g, c', h1, h2, h3, h4⟩ := own_some hown h0
              cases h1
              have h := Tryz.strings_Join g 0 vc (bytesA a) ⟨#[32, 47, 47, 32, 109, 111, 114, 101, 32, 255, 10, 9]⟩ wr (fun i x hx => by
                unfold bytesA at hx
                rw [List.getElem?_map] at hx
                obtain ⟨u, hu, rfl⟩ := Option.map_eq_some_iff.1 hx
                have := h4 i (by have := (List.getElem?_eq_some_iff.1 hu).1; omega)
                simpa [hu] using this) h3 (by unfold bytesA; simp; omega) (by have := own_cap hown; unfold bytesA; simp; omega) (by
                  have e : (⟨#[32, 47, 47, 32, 109, 111, 114, 101, 32, 255, 10, 9]⟩ : ByteArray).data.toList = sepW := rfl
                  rw [e, hW]; omega)
              have e : (⟨#[32, 47, 47, 32, 109, 111, 114, 101, 32, 255, 10, 9]⟩ : ByteArray).data.toList = sepW := rfl
              have e2 : (bytesA a).length = j := by unfold bytesA; simp; omega
              rw [e, hW, e2] at h
              exact h
          obtain ⟨l', hl', hsl'⟩ := HLO.out
          have HL' := Lib.hid hl'
          have HSL' := Lib.hid hsl'
          obtain ⟨J, hJ⟩ : ∃ J, Lib.join (a.map fun t => t.2.1) sepW = J := ⟨_, rfl⟩
          obtain ⟨X, hX⟩ : ∃ X, looseT (a.map fun t => t.2.1) = X := ⟨_, rfl⟩
          have hXJ : X = beginsW ++ J ++ [13, 10] := by rw [← hX, ← hJ]; rfl
          rw [hJ] at cJ hJl
          have f1 : ∀ W, (Op.stringOp .add ⟨#[47, 47, 32, 98, 101, 103, 105, 110, 115, 10]⟩ ⟨J.toArray⟩).run Tryz.prog W = .ok (.string ⟨(beginsW ++ J).toArray⟩) W := cat_run beginsW J _ rfl (by unfold beginsW; simp; omega)
          have f2 : ∀ W, (Op.stringOp .add ⟨(beginsW ++ J).toArray⟩ ⟨#[13, 10]⟩).run Tryz.prog W = .ok (.string ⟨X.toArray⟩) W := cat_run (beginsW ++ J) [13, 10] _ hXJ (by unfold beginsW; simp; omega)
          obtain ⟨Y, hY⟩ : ∃ Y, beginsW ++ J = Y := ⟨_, rfl⟩
          rw [hY] at f1 f2
          have HX := Lib.hid hX
          clear hl' hsl' hW hll hal hown hb HTR HLO hXJ hJ hX hY hJl
          go_wp2_with fail
          refine cJ.mono ?_
          clear cJ
          rintro e w6 ⟨rfl, hb6⟩
          have HB6 := Lib.hid (tr HB5.out hb6)
          have HR6 := Lib.hid (HR5.out.below hb6)
          have HR6' := Lib.hid (HR5'.out.below hb6)
          have c7 := parse_any ⟨X.toArray⟩ w6 (HG.out.1.below HB6.out)
          rw [show (⟨X.toArray⟩ : ByteArray).data.toList = X by simp, show parseR X = .ok l' by rw [← HX.out]; exact HL'.out] at c7
          clear hb6
          go_wp2_with fail
          refine c7.mono ?_
          clear c7
          rintro e w7 ⟨hb7, y7, c7, rfl, hrow7, -⟩
          have HB7 := Lib.hid (tr HB6.out hb7)
          have HR7 := Lib.hid (HR6.out.below hb7)
          have HR7' := Lib.hid (HR6'.out.below hb7)
          have HL7 := Lib.hid hrow7
          obtain ⟨n7, hn7⟩ : ∃ n, l'.length = n := ⟨_, rfl⟩
          have HN7 := Lib.hid hn7
          rw [hn7]
          obtain ⟨S1, hS1⟩ : ∃ S, s.data.toList = S := ⟨_, rfl⟩
          obtain ⟨T1, hT1⟩ : ∃ S, t.data.toList = S := ⟨_, rfl⟩
          have es : s = ⟨S1.toArray⟩ := by rw [← hS1]
          have et : t = ⟨T1.toArray⟩ := by rw [← hT1]
          have hsz : S1.length ≤ 8192 := by rw [← hS1, ← Lib.size_eq]; exact HS.out
          have htz : T1.length ≤ 8192 := by rw [← hT1, ← Lib.size_eq]; exact HT.out
          have g1 : ∀ W, (Op.stringOp .add ⟨S1.toArray⟩ ⟨#[10]⟩).run Tryz.prog W = .ok (.string ⟨(S1 ++ [10]).toArray⟩) W := cat_run S1 [10] _ rfl (by simp; omega)
          have g2 : ∀ W, (Op.stringOp .add ⟨(S1 ++ [10]).toArray⟩ ⟨T1.toArray⟩).run Tryz.prog W = .ok (.string ⟨(S1 ++ 10 :: T1).toArray⟩) W := cat_run (S1 ++ [10]) T1 _ (by simp) (by simp; omega)
          have c8 := parse_any ⟨(S1 ++ 10 :: T1).toArray⟩ w7 (HG.out.1.below HB7.out)
          rw [show (⟨(S1 ++ 10 :: T1).toArray⟩ : ByteArray).data.toList = S1 ++ 10 :: T1 by simp] at c8
          have hbo := HBO.out
          rw [hS1, hT1] at hbo
          have hss : s.size = S1.length := by rw [← hS1]; exact Lib.size_eq s
          have hts : t.size = T1.length := by rw [← hT1]; exact Lib.size_eq t
          subst es et
          obtain ⟨Z, hZ⟩ : ∃ Z, S1 ++ 10 :: T1 = Z := ⟨_, rfl⟩
          obtain ⟨Z1, hZ1⟩ : ∃ Z, S1 ++ [10] = Z := ⟨_, rfl⟩
          rw [hZ] at g2 c8 hbo
          rw [hZ1] at g1 g2
          rcases hbo with ⟨cl, dl, hcd, hc, hd⟩ | ⟨⟨f, hf⟩, hbig⟩
          · rw [hcd] at c8
            have hpr := parse_right hcd
            have hpl := parse_right HP.out
            have hpm := parse_right HP'.out
            have HC := Lib.hid hc
            have HD := Lib.hid hd
            have hcn : cl.length = n := (sameL_len hc).trans HN.out
            have hdn : dl.length = n' := (sameL_len hd).trans HN'.out
            have HCN := Lib.hid hcn
            have HDN := Lib.hid hdn
            have hn40 : n < 2 ^ 40 := by have := len_wtL l; have := HN.out; omega
            have hn40' : n' < 2 ^ 40 := by have := len_wtL m; have := HN'.out; omega
            have HSZ : Hid (szL l < 2 ^ 40 ∧ szL cl < 2 ^ 40 ∧ szL dl < 2 ^ 40) := by
              have h1 := sz_wtL l
              have h2 := sz_wtL cl
              have h3 := sz_wtL dl
              have h4 := wtL_app cl dl
              exact ⟨by omega, by omega, by omega⟩
            obtain ⟨n8, hn8⟩ : ∃ n, (cl ++ dl).length = n := ⟨_, rfl⟩
            have hn8' : n8 = n + n' := by rw [← hn8, List.length_append, hcn, hdn]
            subst hn8'
            have HN8 := Lib.hid hn8
            clear hb7 hrow7 hn7 hcd hc hd hZ hZ1 hS1 hT1 hsz htz hss hts HBO hpr hpl hpm hcn hdn
            go_wp2_with fail
            refine c8.mono ?_
            clear c8
            rintro e w8 ⟨hb8, y8, c8, rfl, hrow8, hcap8⟩
            rw [hn8] at hcap8 ⊢
            have HB8 := Lib.hid (tr HB7.out hb8)
            have HR8 := Lib.hid (HR7.out.below hb8)
            have HR8' := Lib.hid (HR7'.out.below hb8)
            have HL8 := Lib.hid (HL7.out.below hb8)
            have HCD := Lib.hid hrow8
            have hs1 := same_any (fun _ => True) (szL l + 1) l l' (Nat.lt_succ_self _) HSZ.out.1 y y7 c c7 w8 (HR8.out.wide fun _ _ _ => trivial) (HL8.out.wide fun _ _ _ => trivial)
            rw [HSL'.out, HN.out, HN7.out] at hs1
            have Qs : IntKind.i64.wrap ((n : Int) + (n' : Int)) = (n : Int) + (n' : Int) := IntWalk.i64_in _ (by omega)
            have Qe : ((((n + n' : Nat) : Int)) == (n : Int) + (n' : Int)) = true := by simp
            have q1 : (n : Int) ≤ (c8 : Int) := by omega
            have q2 : n ≤ c8 := by omega
            have q3 : (n : Int) ≤ ((n + n' : Nat) : Int) := by omega
            clear hb8 hrow8 hn8
            go_wp2_with fail
            refine hs1.mono ?_
            clear hs1
            rintro e w9 ⟨rfl, hb9⟩
            have HB9 := Lib.hid (tr HB8.out hb9)
            have hs2 := same_any (fun _ => True) (szL cl + 1) cl l (Nat.lt_succ_self _) HSZ.out.2.1 y8 y c8 c w9 ((HCD.out.below hb9).left.wide fun _ _ _ => trivial) ((HR8.out.below hb9).wide fun _ _ _ => trivial)
            rw [HC.out, HN.out, HCN.out] at hs2
            have HR9' := Lib.hid (HR8'.out.below hb9)
            have HCD9 := Lib.hid (HCD.out.below hb9)
            clear hb9
            go_wp2_with fail
            refine hs2.mono ?_
            clear hs2
            rintro e w10 ⟨rfl, hb10⟩
            have HB10 := Lib.hid (tr HB9.out hb10)
            have HD10 := Lib.hid ((HCD9.out.below hb10).wide (ok' := fun _ => True) fun _ _ _ => trivial)
            have hR : NdRow w10 (fun _ => True) dl (Option.map (fun x => x.add (n * 4)) y8) := by
              by_cases h0 : dl = []
              · rw [h0]; trivial
              · obtain ⟨B, o, e1, h1⟩ := HD10.out.right h0
                rw [e1]
                rw [HCN.out] at h1
                show NdRow w10 (fun _ => True) dl (some ((⟨B, o, none⟩ : Addr).add (n * 4)))
                rw [Addr.add_lit]
                exact h1
            have hR0 : n' = 0 → ∀ Y, NdRow w10 (fun _ => True) dl Y := fun h0 Y => by
              have : dl = [] := List.length_eq_zero_iff.1 (by rw [HDN.out]; exact h0)
              rw [this]
              trivial
            have hs3 : ∀ Y C, NdRow w10 (fun _ => True) dl Y → Calls Tryz.prog 25 #[.slice Y n' C, .slice y' n' c'] w10 (Yes true w10) := fun Y C h => by
              have := same_any (fun _ => True) (szL dl + 1) dl m (Nat.lt_succ_self _) HSZ.out.2.2 Y y' C c' w10 h ((HR9'.out.below hb10).wide fun _ _ _ => trivial)
              rw [HD.out, HN'.out, HDN.out] at this
              exact this
            have H3 := Lib.hid hs3
            have HRR := Lib.hid hR
            have HR0 := Lib.hid hR0
            have HCAP := Lib.hid hcap8
            clear hb10 hR hR0 hs3
            go_wp2_with fail
            · have h4 := H3.out y8 0 (HR0.out (by have := HCAP.out; omega) _)
              refine h4.mono ?_
              rintro e w11 ⟨rfl, hb11⟩
              go_wp2_with fail
              go_ret
              exact ⟨rfl, tr HB10.out hb11⟩
            · have h4 := H3.out (Option.map (fun x => x.add (n * 4)) y8) (c8 - n) HRR.out
              refine h4.mono ?_
              rintro e w11 ⟨rfl, hb11⟩
              go_wp2_with fail
              go_ret
              exact ⟨rfl, tr HB10.out hb11⟩
          · rw [hf] at c8
            rw [HK.out] at hbig
            clear hb7 hrow7 hn7 hZ hZ1 hS1 hT1 HBO hf
            go_wp2_with fail
            refine c8.mono ?_
            clear c8
            rintro e w8 ⟨hb8, b8, hb8', rfl, hf8⟩
            have HB8 := Lib.hid (tr HB7.out hb8)
            clear hb8 hf8 hb8'
            have HBIG := Lib.hid hbig
            clear hbig
            go_wp2_with fail
            all_goals (
              go_ret
              refine ⟨?_, HB8.out⟩
              have := HBIG.out
              first | rfl | (simp; omega))
theorem treeBlanks_any (s t : ByteArray) (hs : s.size < 2 ^ 62) (ht : t.size < 2 ^ 62) (w : World) (hG : GlT w) :
    Calls Tryz.prog 9 #[.string s, .string t] w fun e w' => e = .returned (.bool true) ∧ Below w.heap.size w w' := by
  by_cases h : 8192 < s.size ∨ 8192 < t.size
  · exact blanks_far s t h hs ht w hG
  · exact blanks_near s t (by omega) (by omega) w hG
end Go.Proofs.YtpbkeamjdolpgaaGreatDoor
