/- The walk of the reference's expressions. -/
import Derived.Test.YtpbkeamjdolpgaaGreatDoorTreeQg
namespace Go.Proofs.YtpbkeamjdolpgaaGreatDoor
open Go.RowKit Go.Lib Go.Shelf

theorem take_t {ts : List Tk} {L : Nat} {s : List UInt8} {p p' a : Nat} {b' : Bool} (hi : isT ts p s = true) (h : Mt (Tot (takeP ts L s) false p) b' p' a) : b' = false ∧ p' = p + 1 := by
  rw [tot_go, takeP, if_pos hi] at h
  exact ⟨h.1, h.2.1⟩
set_option maxHeartbeats 4000000 in
set_option maxRecDepth 100000 in
theorem rexpr_any (C : Ctx) (ex : Nat → Res Nd) (hx : ROneQ C 87 ex) (f : Nat) (_hf : f ≤ 8192) (hl : ∀ w b p, RSt C w b p → Tot (levO C.ts C.s.size ex f 5) b p ≠ .out → Calls Tryz.prog 143 #[.pointer (some ⟨C.pb, 0, none⟩), .int .i64 0] w (RFinN C w (levO C.ts C.s.size ex f 5) b p)) : ROne C 87 (exprO C.ts C.s.size ex f) := by
  intro w b p h hne
  obtain ⟨R, hR⟩ : ∃ R, Tot (exprO C.ts C.s.size ex f) b p = R := ⟨_, rfl⟩
  have hT : R = (Tot (levO C.ts C.s.size ex f 5) b p).bind fun x q => if isT C.ts q [63] then (ex (q + 1)).bind fun y r => (takeP C.ts C.s.size [58] r).bind fun _ r' => (ex r').bind fun z e => .ok (.mk 15 [] [x, y, z] (placeT C.ts C.s.size q)) e else .ok x q := by
    rw [← hR, ← tot_bind]
    rfl
  rw [hR] at hne
  have HR := hj hR
  have HT := hj hT
  have HNE := hj hne
  have HHX := hj hx
  have HHL := hj hl
  have HN1065 : Hid (NSt C w w b p []) := NSt.start h
  clear hR hT hne h hx hl
  go_enter Tryz.func87, Tryz.ntmps87
  go_upto_region 1 with (fail)
  have HN1066 : Hid (NSt C w (World.alloc w (.cells #[.int .i64 0, .string ⟨#[]⟩, .slice none 0 0, .int .i64 0] 53)) b p [zB w.heap.size]) := hj (HN1065.out.alloc _ _ _ _)
  clear HN1065
  generalize World.alloc w (.cells #[.int .i64 0, .string ⟨#[]⟩, .slice none 0 0, .int .i64 0] 53) = W1067 at HN1066 ⊢
  have c1068 := HHL.out _ _ _ HN1066.out.st (fun e => HNE.out (by rw [HT.out, e]; rfl))
  unfold RFinN at c1068
  go_wp2_with fail
  (with_reducible refine c1068.mono ?_)
  clear c1068
  rintro e V1081 ⟨b1069, q1070, k1075, n1076, l1077, pp1078, y1079, cp1080, hM1071, rfl, hk1074, hs1072, ho1073⟩
  have HN1082 : Hid (NSt C w V1081 b1069 q1070 [zB w.heap.size]) := hj (HN1066.out.call hs1072 ho1073)
  have HK1083 : Hid (Rw w.heap.size V1081 [w.heap.size] l1077 y1079) := hj (HN1066.out.row HN1066.out.ow.size hk1074)
  clear HN1066 ho1073 hs1072 hk1074
  have HT1 : Hid (R = Tot (fun q => if isT C.ts q [63] then (ex (q + 1)).bind fun y r => (takeP C.ts C.s.size [58] r).bind fun _ r' => (ex r').bind fun z e => .ok (.mk 15 [] [(.mk k1075 n1076 l1077 pp1078), y, z] (placeT C.ts C.s.size q)) e else .ok (.mk k1075 n1076 l1077 pp1078) q) b1069 q1070) := by
    show R = _
    rw [HT.out, hM1071.bind]
  clear hM1071 HT
  go_upto_region 2 with (fail)
  have HN1084 : Hid (NSt C w (World.alloc V1081 (.cells #[.int .i64 k1075, .string ⟨n1076.toArray⟩, .slice y1079 l1077.length cp1080, .int .i64 pp1078] 53)) b1069 q1070 [nB V1081.heap.size k1075 n1076 y1079 l1077 cp1080 pp1078, zB w.heap.size]) := hj (HN1082.out.alloc _ _ _ _)
  have HK1086 : Hid (Rw w.heap.size (World.alloc V1081 (.cells #[.int .i64 k1075, .string ⟨n1076.toArray⟩, .slice y1079 l1077.length cp1080, .int .i64 pp1078] 53)) [V1081.heap.size, w.heap.size] l1077 y1079) := hj (HK1083.out.alloc _)
  clear HN1082 HK1083
  generalize World.alloc V1081 (.cells #[.int .i64 k1075, .string ⟨n1076.toArray⟩, .slice y1079 l1077.length cp1080, .int .i64 pp1078] 53) = W1085 at HN1084 HK1086 ⊢
  have c1087 := ris_any C b1069 q1070 [63] W1085 HN1084.out.st
  obtain ⟨E1088, hE1088⟩ : ∃ E, (!b1069 && isT C.ts q1070 [63]) = E := ⟨_, rfl⟩
  rw [hE1088] at c1087
  have HE1088 := hj hE1088
  clear hE1088
  go_wp2_with fail
  (with_reducible refine c1087.mono ?_)
  clear c1087
  rintro e V1090 ⟨rfl, hb1089⟩
  have hb1089s := HN1084.out.st.below hb1089
  have hb1089o : Ow C.pb W1085 V1090 := Ow.of_below hb1089
  clear hb1089
  have HN1091 : Hid (NSt C w V1090 b1069 q1070 [nB V1081.heap.size k1075 n1076 y1079 l1077 cp1080 pp1078, zB w.heap.size]) := hj (HN1084.out.call hb1089s hb1089o)
  have HK1092 : Hid (Rw w.heap.size V1090 [V1081.heap.size, w.heap.size] l1077 y1079) := hj (HK1086.out.call HN1084.out.pb hb1089o)
  clear HN1084 HK1086 hb1089o hb1089s
  cases E1088
  · have HM : Hid (Mt R b1069 q1070 (.mk k1075 n1076 l1077 pp1078)) := by
      show Mt _ _ _ _
      rw [HT1.out, tot_if_f HE1088.out]
      exact Mt.ret _ _ _
    clear HT1
    obtain ⟨x0, x1, x2, x3, xf⟩ : BoxF V1090 (V1081.heap.size) (.int .i64 k1075) (.string ⟨n1076.toArray⟩) (.slice y1079 l1077.length cp1080) (.int .i64 pp1078) := HN1091.out.at_ (List.Mem.head _)
    obtain ⟨r0, r1, r2, r3, rf⟩ : BoxF V1090 (w.heap.size) (.int .i64 0) (.string ⟨#[]⟩) (.slice none 0 0) (.int .i64 0) := HN1091.out.at_ (List.Mem.tail _ (List.Mem.head _))
    have HN1093 : Hid (NSt C w (S4 V1090 w.heap.size (.int .i64 k1075) (.string ⟨n1076.toArray⟩) (.slice y1079 l1077.length cp1080) (.int .i64 pp1078)) b1069 q1070 [nB V1081.heap.size k1075 n1076 y1079 l1077 cp1080 pp1078, nB w.heap.size k1075 n1076 y1079 l1077 cp1080 pp1078]) := hj (NSt.set4 (pre := [nB V1081.heap.size k1075 n1076 y1079 l1077 cp1080 pp1078]) HN1091.out)
    have HK1094 : Hid (Rw w.heap.size (S4 V1090 w.heap.size (.int .i64 k1075) (.string ⟨n1076.toArray⟩) (.slice y1079 l1077.length cp1080) (.int .i64 pp1078)) [V1081.heap.size, w.heap.size] l1077 y1079) := hj (HK1092.out.set4 (List.Mem.tail _ (List.Mem.head _)))
    have HW : Hid (w.heap.size ≤ w.heap.size) := hj (Nat.le_refl _)
    have HF : Hid (RFinN C w (exprO C.ts C.s.size ex f) b p (.returned (.agg #[.int .i64 k1075, .string ⟨n1076.toArray⟩, .slice y1079 l1077.length cp1080, .int .i64 pp1078])) (S4 V1090 w.heap.size (.int .i64 k1075) (.string ⟨n1076.toArray⟩) (.slice y1079 l1077.length cp1080) (.int .i64 pp1078))) := hj (NSt.fin (n := n1076) (l := l1077) HN1093.out HW.out (by rw [HR.out]; exact HM.out) HK1094.out)
    clear HN1091 HN1093 HW HM HK1094 HK1092
    go_wp2_with fail
    exact ret_node rfl rfl rfl (by simp [go_sem, r0]) (by simp [go_sem, r1]) (by simp [go_sem, r2]) (by simp [go_sem, r3]) HF.out
  · obtain ⟨rfl, hi⟩ : b1069 = false ∧ isT C.ts q1070 [63] = true := by
      have := HE1088.out
      cases b1069 <;> simp_all
    clear HE1088
    have HT2 : Hid (R = (Tot ex false (q1070 + 1)).bind fun y r => (takeP C.ts C.s.size [58] r).bind fun _ r' => (ex r').bind fun z e => .ok (.mk 15 [] [(.mk k1075 n1076 l1077 pp1078), y, z] (placeT C.ts C.s.size q1070)) e) := by
      show R = _
      rw [HT1.out, tot_go, if_pos hi]
      rfl
    clear HT1
    have HI := hj hi
    clear hi
    have c1095 := rtake_any C false q1070 [63] V1090 HN1091.out.st
    obtain ⟨pl1096, hpl1096⟩ : ∃ pl, placeT C.ts C.s.size q1070 = pl := ⟨_, rfl⟩
    rw [hpl1096] at c1095
    have Hpl1096 := hj hpl1096
    clear hpl1096
    go_wp2_with fail
    (with_reducible refine c1095.mono ?_)
    clear c1095
    rintro e V1103 ⟨b1097, q1098, a1102, hM1099, rfl, hs1100, ho1101⟩
    have hM1099' := hM1099.place
    rw [Hpl1096.out] at hM1099'
    clear hM1099
    have HN1104 : Hid (NSt C w V1103 b1097 q1098 [nB V1081.heap.size k1075 n1076 y1079 l1077 cp1080 pp1078, zB w.heap.size]) := hj (HN1091.out.call hs1100 ho1101)
    have HK1105 : Hid (Rw w.heap.size V1103 [V1081.heap.size, w.heap.size] l1077 y1079) := hj (HK1092.out.call HN1091.out.pb ho1101)
    clear HN1091 HK1092 ho1101 hs1100
    obtain ⟨rfl, rfl⟩ := take_t HI.out hM1099'
    clear hM1099'
    have HWQ : Hid (∃ q, ex q ≠ .out) := hj ⟨_, fun e => HNE.out (by rw [HT2.out, tot_go, e]; rfl)⟩
    have c1106 := HHX.out _ _ _ HN1104.out.st (fun e => HNE.out (by rw [HT2.out, e]; rfl)) HWQ.out
    unfold RFinN at c1106
    go_wp2_with fail
    (with_reducible refine c1106.mono ?_)
    clear c1106
    rintro e V1119 ⟨b1107, q1108, k1113, n1114, l1115, pp1116, y1117, cp1118, hM1109, rfl, hk1112, hs1110, ho1111⟩
    have HN1120 : Hid (NSt C w V1119 b1107 q1108 [nB V1081.heap.size k1075 n1076 y1079 l1077 cp1080 pp1078, zB w.heap.size]) := hj (HN1104.out.call hs1110 ho1111)
    have HK1121 : Hid (Rw w.heap.size V1119 [V1081.heap.size, w.heap.size] l1077 y1079) := hj (HK1105.out.call HN1104.out.pb ho1111)
    have HK1122 : Hid (Rw w.heap.size V1119 [V1081.heap.size, w.heap.size] l1115 y1117) := hj (HN1104.out.row HN1104.out.ow.size hk1112)
    clear HN1104 HK1105 ho1111 hs1110 hk1112
    have HT3 : Hid (R = (Tot (takeP C.ts C.s.size [58]) b1107 q1108).bind fun _ r' => (ex r').bind fun z e => .ok (.mk 15 [] [(.mk k1075 n1076 l1077 pp1078), (.mk k1113 n1114 l1115 pp1116), z] (pl1096 : Int)) e) := by
      show R = _
      rw [HT2.out, hM1109.bind, Hpl1096.out, ← tot_bind]
    clear hM1109 HT2
    go_upto_region 7 with (fail)
    have HN1123 : Hid (NSt C w (World.alloc V1119 (.cells #[.int .i64 k1113, .string ⟨n1114.toArray⟩, .slice y1117 l1115.length cp1118, .int .i64 pp1116] 53)) b1107 q1108 [nB V1119.heap.size k1113 n1114 y1117 l1115 cp1118 pp1116, nB V1081.heap.size k1075 n1076 y1079 l1077 cp1080 pp1078, zB w.heap.size]) := hj (HN1120.out.alloc _ _ _ _)
    have HK1125 : Hid (Rw w.heap.size (World.alloc V1119 (.cells #[.int .i64 k1113, .string ⟨n1114.toArray⟩, .slice y1117 l1115.length cp1118, .int .i64 pp1116] 53)) [V1119.heap.size, V1081.heap.size, w.heap.size] l1077 y1079) := hj (HK1121.out.alloc _)
    have HK1126 : Hid (Rw w.heap.size (World.alloc V1119 (.cells #[.int .i64 k1113, .string ⟨n1114.toArray⟩, .slice y1117 l1115.length cp1118, .int .i64 pp1116] 53)) [V1119.heap.size, V1081.heap.size, w.heap.size] l1115 y1117) := hj (HK1122.out.alloc _)
    clear HN1120 HK1121 HK1122
    generalize World.alloc V1119 (.cells #[.int .i64 k1113, .string ⟨n1114.toArray⟩, .slice y1117 l1115.length cp1118, .int .i64 pp1116] 53) = W1124 at HN1123 HK1125 HK1126 ⊢
    have c1127 := rtake_any C b1107 q1108 [58] W1124 HN1123.out.st
    obtain ⟨pl1128, hpl1128⟩ : ∃ pl, placeT C.ts C.s.size q1108 = pl := ⟨_, rfl⟩
    rw [hpl1128] at c1127
    have Hpl1128 := hj hpl1128
    clear hpl1128
    go_wp2_with fail
    (with_reducible refine c1127.mono ?_)
    clear c1127
    rintro e V1135 ⟨b1129, q1130, a1134, hM1131, rfl, hs1132, ho1133⟩
    have hM1131' := hM1131.place
    rw [Hpl1128.out] at hM1131'
    clear hM1131
    have HN1136 : Hid (NSt C w V1135 b1129 q1130 [nB V1119.heap.size k1113 n1114 y1117 l1115 cp1118 pp1116, nB V1081.heap.size k1075 n1076 y1079 l1077 cp1080 pp1078, zB w.heap.size]) := hj (HN1123.out.call hs1132 ho1133)
    have HK1137 : Hid (Rw w.heap.size V1135 [V1119.heap.size, V1081.heap.size, w.heap.size] l1077 y1079) := hj (HK1125.out.call HN1123.out.pb ho1133)
    have HK1138 : Hid (Rw w.heap.size V1135 [V1119.heap.size, V1081.heap.size, w.heap.size] l1115 y1117) := hj (HK1126.out.call HN1123.out.pb ho1133)
    clear HN1123 HK1125 HK1126 ho1133 hs1132
    have HT4 : Hid (R = (Tot ex b1129 q1130).bind fun z e => .ok (.mk 15 [] [(.mk k1075 n1076 l1077 pp1078), (.mk k1113 n1114 l1115 pp1116), z] (pl1096 : Int)) e) := by
      show R = _
      rw [HT3.out, hM1131'.bind, ← tot_bind]
    clear hM1131' HT3
    have c1139 := HHX.out _ _ _ HN1136.out.st (fun e => HNE.out (by rw [HT4.out, e]; rfl)) HWQ.out
    unfold RFinN at c1139
    go_wp2_with fail
    (with_reducible refine c1139.mono ?_)
    clear c1139
    rintro e V1152 ⟨b1140, q1141, k1146, n1147, l1148, pp1149, y1150, cp1151, hM1142, rfl, hk1145, hs1143, ho1144⟩
    have HN1153 : Hid (NSt C w V1152 b1140 q1141 [nB V1119.heap.size k1113 n1114 y1117 l1115 cp1118 pp1116, nB V1081.heap.size k1075 n1076 y1079 l1077 cp1080 pp1078, zB w.heap.size]) := hj (HN1136.out.call hs1143 ho1144)
    have HK1154 : Hid (Rw w.heap.size V1152 [V1119.heap.size, V1081.heap.size, w.heap.size] l1077 y1079) := hj (HK1137.out.call HN1136.out.pb ho1144)
    have HK1155 : Hid (Rw w.heap.size V1152 [V1119.heap.size, V1081.heap.size, w.heap.size] l1115 y1117) := hj (HK1138.out.call HN1136.out.pb ho1144)
    have HK1156 : Hid (Rw w.heap.size V1152 [V1119.heap.size, V1081.heap.size, w.heap.size] l1148 y1150) := hj (HN1136.out.row HN1136.out.ow.size hk1145)
    clear HN1136 HK1137 HK1138 ho1144 hs1143 hk1145
    have HM : Hid (Mt R b1140 q1141 (.mk 15 [] [(.mk k1075 n1076 l1077 pp1078), (.mk k1113 n1114 l1115 pp1116), (.mk k1146 n1147 l1148 pp1149)] (pl1096 : Int))) := by
      show Mt _ _ _ _
      rw [HT4.out, hM1142.bind]
      exact Mt.ret _ _ _
    clear hM1142 HT4
    go_upto_region 9 with (fail)
    have HN1157 : Hid (NSt C w (World.alloc V1152 (.cells #[.int .i64 k1146, .string ⟨n1147.toArray⟩, .slice y1150 l1148.length cp1151, .int .i64 pp1149] 53)) b1140 q1141 [nB V1152.heap.size k1146 n1147 y1150 l1148 cp1151 pp1149, nB V1119.heap.size k1113 n1114 y1117 l1115 cp1118 pp1116, nB V1081.heap.size k1075 n1076 y1079 l1077 cp1080 pp1078, zB w.heap.size]) := hj (HN1153.out.alloc _ _ _ _)
    have HK1159 : Hid (Rw w.heap.size (World.alloc V1152 (.cells #[.int .i64 k1146, .string ⟨n1147.toArray⟩, .slice y1150 l1148.length cp1151, .int .i64 pp1149] 53)) [V1152.heap.size, V1119.heap.size, V1081.heap.size, w.heap.size] l1077 y1079) := hj (HK1154.out.alloc _)
    have HK1160 : Hid (Rw w.heap.size (World.alloc V1152 (.cells #[.int .i64 k1146, .string ⟨n1147.toArray⟩, .slice y1150 l1148.length cp1151, .int .i64 pp1149] 53)) [V1152.heap.size, V1119.heap.size, V1081.heap.size, w.heap.size] l1115 y1117) := hj (HK1155.out.alloc _)
    have HK1161 : Hid (Rw w.heap.size (World.alloc V1152 (.cells #[.int .i64 k1146, .string ⟨n1147.toArray⟩, .slice y1150 l1148.length cp1151, .int .i64 pp1149] 53)) [V1152.heap.size, V1119.heap.size, V1081.heap.size, w.heap.size] l1148 y1150) := hj (HK1156.out.alloc _)
    clear HN1153 HK1154 HK1155 HK1156
    generalize World.alloc V1152 (.cells #[.int .i64 k1146, .string ⟨n1147.toArray⟩, .slice y1150 l1148.length cp1151, .int .i64 pp1149] 53) = W1158 at HN1157 HK1159 HK1160 HK1161 ⊢
    obtain ⟨x0, x1, x2, x3, xf⟩ : BoxF W1158 (V1081.heap.size) (.int .i64 k1075) (.string ⟨n1076.toArray⟩) (.slice y1079 l1077.length cp1080) (.int .i64 pp1078) := HN1157.out.at_ (List.Mem.tail _ (List.Mem.tail _ (List.Mem.head _)))
    obtain ⟨y0, y1, y2, y3, yf⟩ : BoxF W1158 (V1119.heap.size) (.int .i64 k1113) (.string ⟨n1114.toArray⟩) (.slice y1117 l1115.length cp1118) (.int .i64 pp1116) := HN1157.out.at_ (List.Mem.tail _ (List.Mem.head _))
    obtain ⟨z0, z1, z2, z3, zf⟩ : BoxF W1158 (V1152.heap.size) (.int .i64 k1146) (.string ⟨n1147.toArray⟩) (.slice y1150 l1148.length cp1151) (.int .i64 pp1149) := HN1157.out.at_ (List.Mem.head _)
    obtain ⟨r0, r1, r2, r3, rf⟩ : BoxF W1158 (w.heap.size) (.int .i64 0) (.string ⟨#[]⟩) (.slice none 0 0) (.int .i64 0) := HN1157.out.at_ (List.Mem.tail _ (List.Mem.tail _ (List.Mem.tail _ (List.Mem.head _))))
    have ra0 := fun o => al_cell r0 o
    have ra1 := fun o => al_cell r1 o
    have ra2 := fun o => al_cell r2 o
    have ra3 := fun o => al_cell r3 o
    have raf : ∀ ob o, (World.alloc W1158 ob).frozen? ⟨w.heap.size, o, none⟩ = false := fun ob o => ((HN1157.out.bx _ (List.Mem.tail _ (List.Mem.tail _ (List.Mem.tail _ (List.Mem.head _))))).2.alloc ob).facts.2.2.2.2 o
    have HK1162 : Hid (Rw w.heap.size (World.alloc W1158 (.cells #[.int .i64 k1075, .string ⟨n1076.toArray⟩, .slice y1079 l1077.length cp1080, .int .i64 pp1078, .int .i64 k1113, .string ⟨n1114.toArray⟩, .slice y1117 l1115.length cp1118, .int .i64 pp1116, .int .i64 k1146, .string ⟨n1147.toArray⟩, .slice y1150 l1148.length cp1151, .int .i64 pp1149] 53)) [V1152.heap.size, V1119.heap.size, V1081.heap.size, w.heap.size] [(.mk k1075 n1076 l1077 pp1078), (.mk k1113 n1114 l1115 pp1116), (.mk k1146 n1147 l1148 pp1149)] (some ⟨W1158.heap.size, 0, none⟩)) := hj (Rw.three HN1157.out HN1157.out.ow.size HK1159.out HK1160.out HK1161.out)
    have HN1163 : Hid (NSt C w (World.alloc W1158 (.cells #[.int .i64 k1075, .string ⟨n1076.toArray⟩, .slice y1079 l1077.length cp1080, .int .i64 pp1078, .int .i64 k1113, .string ⟨n1114.toArray⟩, .slice y1117 l1115.length cp1118, .int .i64 pp1116, .int .i64 k1146, .string ⟨n1147.toArray⟩, .slice y1150 l1148.length cp1151, .int .i64 pp1149] 53)) b1140 q1141 [nB V1152.heap.size k1146 n1147 y1150 l1148 cp1151 pp1149, nB V1119.heap.size k1113 n1114 y1117 l1115 cp1118 pp1116, nB V1081.heap.size k1075 n1076 y1079 l1077 cp1080 pp1078, zB w.heap.size]) := hj (HN1157.out.blk _)
    clear HN1157 HK1159 HK1160 HK1161
    have HN1164 : Hid (NSt C w (S4 (World.alloc W1158 (.cells #[.int .i64 k1075, .string ⟨n1076.toArray⟩, .slice y1079 l1077.length cp1080, .int .i64 pp1078, .int .i64 k1113, .string ⟨n1114.toArray⟩, .slice y1117 l1115.length cp1118, .int .i64 pp1116, .int .i64 k1146, .string ⟨n1147.toArray⟩, .slice y1150 l1148.length cp1151, .int .i64 pp1149] 53)) w.heap.size (.int .i64 15) (.string ⟨#[]⟩) (.slice (some ⟨W1158.heap.size, 0, none⟩) 3 3) (.int .i64 pl1096)) b1140 q1141 [nB V1152.heap.size k1146 n1147 y1150 l1148 cp1151 pp1149, nB V1119.heap.size k1113 n1114 y1117 l1115 cp1118 pp1116, nB V1081.heap.size k1075 n1076 y1079 l1077 cp1080 pp1078, (w.heap.size, .int .i64 15, .string ⟨#[]⟩, .slice (some ⟨W1158.heap.size, 0, none⟩) 3 3, .int .i64 pl1096)]) := hj (NSt.set4 (pre := [nB V1152.heap.size k1146 n1147 y1150 l1148 cp1151 pp1149, nB V1119.heap.size k1113 n1114 y1117 l1115 cp1118 pp1116, nB V1081.heap.size k1075 n1076 y1079 l1077 cp1080 pp1078]) HN1163.out)
    have HK1165 : Hid (Rw w.heap.size (S4 (World.alloc W1158 (.cells #[.int .i64 k1075, .string ⟨n1076.toArray⟩, .slice y1079 l1077.length cp1080, .int .i64 pp1078, .int .i64 k1113, .string ⟨n1114.toArray⟩, .slice y1117 l1115.length cp1118, .int .i64 pp1116, .int .i64 k1146, .string ⟨n1147.toArray⟩, .slice y1150 l1148.length cp1151, .int .i64 pp1149] 53)) w.heap.size (.int .i64 15) (.string ⟨#[]⟩) (.slice (some ⟨W1158.heap.size, 0, none⟩) 3 3) (.int .i64 pl1096)) [V1152.heap.size, V1119.heap.size, V1081.heap.size, w.heap.size] [(.mk k1075 n1076 l1077 pp1078), (.mk k1113 n1114 l1115 pp1116), (.mk k1146 n1147 l1148 pp1149)] (some ⟨W1158.heap.size, 0, none⟩)) := hj (HK1162.out.set4 (List.Mem.tail _ (List.Mem.tail _ (List.Mem.tail _ (List.Mem.head _)))))
    have HW : Hid (w.heap.size ≤ w.heap.size) := hj (Nat.le_refl _)
    have HF : Hid (RFinN C w (exprO C.ts C.s.size ex f) b p (.returned (.agg #[.int .i64 15, .string ⟨#[]⟩, .slice (some ⟨W1158.heap.size, 0, none⟩) 3 3, .int .i64 pl1096])) (S4 (World.alloc W1158 (.cells #[.int .i64 k1075, .string ⟨n1076.toArray⟩, .slice y1079 l1077.length cp1080, .int .i64 pp1078, .int .i64 k1113, .string ⟨n1114.toArray⟩, .slice y1117 l1115.length cp1118, .int .i64 pp1116, .int .i64 k1146, .string ⟨n1147.toArray⟩, .slice y1150 l1148.length cp1151, .int .i64 pp1149] 53)) w.heap.size (.int .i64 15) (.string ⟨#[]⟩) (.slice (some ⟨W1158.heap.size, 0, none⟩) 3 3) (.int .i64 pl1096))) := hj (NSt.fin (n := []) (l := [(.mk k1075 n1076 l1077 pp1078), (.mk k1113 n1114 l1115 pp1116), (.mk k1146 n1147 l1148 pp1149)]) HN1164.out HW.out (by rw [HR.out]; exact HM.out) HK1165.out)
    clear HN1163 HN1164 HW HM HK1165 HK1162
    go_wp2_with fail
    exact ret_node rfl rfl rfl (by simp [go_sem, ra0]) (by simp [go_sem, ra1]) (by simp [go_sem, ra2]) (by simp [go_sem, ra3]) HF.out
end Go.Proofs.YtpbkeamjdolpgaaGreatDoor
