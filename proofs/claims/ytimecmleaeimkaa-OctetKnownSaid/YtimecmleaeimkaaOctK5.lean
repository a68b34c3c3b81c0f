/- OctetKnown's region 5. -/
import Derived.Test.YtimecmleaeimkaaOctK0
import Derived.Test.YtimecmleaeimkaaBase5
import Derived.Deep.CutRange
namespace Go.Proofs.Ytimecmleaeimkaa
open Go.RowKit
set_option linter.unusedVariables false
attribute [local go_sem] clo
set_option maxHeartbeats 8000000 in
set_option maxRecDepth 100000 in
theorem okr5 (full fa ft : ByteArray) (F : Full full fa ft) (w W : World) (hw : Ext w W) (c : Code) (hc : pieceK 5 = c) (c0 c3 c4 c5 c6 c7 c8 c9 c10 c11 c12 c13 c14 c15 c16 c17 c18 c19 c20 c21 c22 c23 c24 c25 c26 c27 c28 c29 c30 c31 c32 c33 c34 c35 c36 c37 c38 c39 c40 c41 c42 c43 c44 c45 c46 c47 c48 c49 c50 c51 c52 c53 c54 c55 c56 c57 c58 c59 c60 c61 c62 c63 c64 c65 c66 c67 c68 c69 c70 c71 c72 c176 c177 c178 c179 c180 c181 c182 c183 c184 c185 c186 c187 c188 c189 c190 c191 c192 c193 c194 c195 c196 c197 c198 c199 c200 c201 c202 c203 c204 c205 c206 c207 c208 c209 c210 c211 c212 c213 c214 c215 c216 c217 c218 c219 c220 c221 c222 c223 c224 c225 c226 c227 c228 c229 c230 c231 c232 c233 c234 c235 c236 c237 c238 c239 c240 c241 c242 c243 c244 c245 c246 c247 c248 c249 c250 c251 c252 c253 c254 c255 c256 c257 c258 c259 c260 c261 c262 c263 c264 c265 c266 c267 c268 c269 c270 c271 c272 c273 c274 c275 c276 c277 c278 c279 c280 c281 c282 c283 c284 c285 c286 c287 c288 c289 c290 c291 c292 c293 c294 c295 c296 c297 c298 c299 c300 c301 c302 c303 c304 c305 c306 c307 c308 c309 c310 c311 c312 c313 c314 c315 c316 c317 c318 c319 c320 c321 c322 c323 c324 c325 c326 c327 c328 c329 c330 c331 c332 c333 c334 c335 c336 c337 c338 c339 c340 c341 c342 c343 p73 p74 p75 p76 p77 p78 p79 p80 p81 p82 p83 p84 p85 p86 p87 p88 p89 p90 p91 p92 p93 p94 p95 p96 p97 p98 p99 p100 p101 p102 p103 p104 p105 p106 p107 p108 p109 p110 p111 p112 p113 p114 p115 p116 p117 p118 p119 p120 p121 p122 p123 p124 p125 p126 p127 p128 p129 p130 p131 p132 p133 p134 p135 p136 p137 p138 p139 p140 p141 p142 p143 p144 p145 p146 p147 p148 p149 p150 p151 p152 p153 p154 p155 p156 p157 p158 p159 p160 p161 p162 p163 p164 p165 p166 p167 p168 p169 p170 p171 p172 p173 p174 p175 : Value) (K : Act → World → Prop) (Q : Exit → Act → World → Prop)
    (hK : ∀ (u73 u74 u75 u76 u77 u78 u79 u80 u81 u82 u83 u84 u85 u86 u87 u88 u89 u90 u91 u92 u93 u94 u95 u96 u97 u98 u99 u100 u101 u102 u103 u104 u105 u106 u107 u108 u109 u110 u111 u112 u113 u114 u115 u116 u117 u118 u119 u120 u121 u122 u123 u124 u125 u126 u127 u128 u129 u130 u131 u132 u133 u134 u135 u136 u137 u138 u139 u140 u141 u142 u143 u144 u145 u146 u147 u148 u149 u150 u151 u152 u153 u154 u155 u156 u157 u158 u159 u160 u161 u162 u163 u164 u165 u166 u167 u168 u169 u170 u171 u172 u173 u174 u175 : Value) (W' : World), Ext w W' → K ⟨#[c0, .string full, .bool true, c3, c4, c5, c6, c7, c8, c9, c10, c11, c12, c13, c14, c15, c16, c17, c18, c19, c20, c21, c22, c23, c24, c25, c26, c27, c28, c29, c30, c31, c32, c33, c34, c35, c36, c37, c38, c39, c40, c41, c42, c43, c44, c45, c46, c47, c48, c49, c50, c51, c52, c53, c54, c55, c56, c57, c58, c59, c60, c61, c62, c63, c64, c65, c66, c67, c68, c69, c70, c71, c72, u73, u74, u75, u76, u77, u78, u79, u80, u81, u82, u83, u84, u85, u86, u87, u88, u89, u90, u91, u92, u93, u94, u95, u96, u97, u98, u99, u100, u101, u102, u103, u104, u105, u106, u107, u108, u109, u110, u111, u112, u113, u114, u115, u116, u117, u118, u119, u120, u121, u122, u123, u124, u125, u126, u127, u128, u129, u130, u131, u132, u133, u134, u135, u136, u137, u138, u139, u140, u141, u142, u143, u144, u145, u146, u147, u148, u149, u150, u151, u152, u153, u154, u155, u156, u157, u158, u159, u160, u161, u162, u163, u164, u165, u166, u167, u168, u169, u170, u171, u172, u173, u174, u175, c176, c177, c178, c179, c180, c181, c182, c183, c184, c185, c186, c187, c188, c189, c190, c191, c192, c193, c194, c195, c196, c197, c198, c199, c200, c201, c202, c203, c204, c205, c206, c207, c208, c209, c210, c211, c212, c213, c214, c215, c216, c217, c218, c219, c220, c221, c222, c223, c224, c225, c226, c227, c228, c229, c230, c231, c232, c233, c234, c235, c236, c237, c238, c239, c240, c241, c242, c243, c244, c245, c246, c247, c248, c249, c250, c251, c252, c253, c254, c255, c256, c257, c258, c259, c260, c261, c262, c263, c264, c265, c266, c267, c268, c269, c270, c271, c272, c273, c274, c275, c276, c277, c278, c279, c280, c281, c282, c283, c284, c285, c286, c287, c288, c289, c290, c291, c292, c293, c294, c295, c296, c297, c298, c299, c300, c301, c302, c303, c304, c305, c306, c307, c308, c309, c310, c311, c312, c313, c314, c315, c316, c317, c318, c319, c320, c321, c322, c323, c324, c325, c326, c327, c328, c329, c330, c331, c332, c333, c334, c335, c336, c337, c338, c339, c340, c341, c342, c343], []⟩ W') :
    Code.wp Try.prog c (Exit.then K Q) ⟨#[c0, .string full, .bool true, c3, c4, c5, c6, c7, c8, c9, c10, c11, c12, c13, c14, c15, c16, c17, c18, c19, c20, c21, c22, c23, c24, c25, c26, c27, c28, c29, c30, c31, c32, c33, c34, c35, c36, c37, c38, c39, c40, c41, c42, c43, c44, c45, c46, c47, c48, c49, c50, c51, c52, c53, c54, c55, c56, c57, c58, c59, c60, c61, c62, c63, c64, c65, c66, c67, c68, c69, c70, c71, c72, p73, p74, p75, p76, p77, p78, p79, p80, p81, p82, p83, p84, p85, p86, p87, p88, p89, p90, p91, p92, p93, p94, p95, p96, p97, p98, p99, p100, p101, p102, p103, p104, p105, p106, p107, p108, p109, p110, p111, p112, p113, p114, p115, p116, p117, p118, p119, p120, p121, p122, p123, p124, p125, p126, p127, p128, p129, p130, p131, p132, p133, p134, p135, p136, p137, p138, p139, p140, p141, p142, p143, p144, p145, p146, p147, p148, p149, p150, p151, p152, p153, p154, p155, p156, p157, p158, p159, p160, p161, p162, p163, p164, p165, p166, p167, p168, p169, p170, p171, p172, p173, p174, p175, c176, c177, c178, c179, c180, c181, c182, c183, c184, c185, c186, c187, c188, c189, c190, c191, c192, c193, c194, c195, c196, c197, c198, c199, c200, c201, c202, c203, c204, c205, c206, c207, c208, c209, c210, c211, c212, c213, c214, c215, c216, c217, c218, c219, c220, c221, c222, c223, c224, c225, c226, c227, c228, c229, c230, c231, c232, c233, c234, c235, c236, c237, c238, c239, c240, c241, c242, c243, c244, c245, c246, c247, c248, c249, c250, c251, c252, c253, c254, c255, c256, c257, c258, c259, c260, c261, c262, c263, c264, c265, c266, c267, c268, c269, c270, c271, c272, c273, c274, c275, c276, c277, c278, c279, c280, c281, c282, c283, c284, c285, c286, c287, c288, c289, c290, c291, c292, c293, c294, c295, c296, c297, c298, c299, c300, c301, c302, c303, c304, c305, c306, c307, c308, c309, c310, c311, c312, c313, c314, c315, c316, c317, c318, c319, c320, c321, c322, c323, c324, c325, c326, c327, c328, c329, c330, c331, c332, c333, c334, c335, c336, c337, c338, c339, c340, c341, c342, c343], []⟩ W := by
  subst hc
  have HK := Hd.mk hK
  clear hK
  have z0 := F.size
  have z1 := F.add
  have z2 := F.cut
  have z3 := F.tsize
  have z4 := F.g1
  have z5 := F.g2
  have z6 := F.g3
  have z7 := F.g4
  have z8 := F.p1
  have z9 := F.p2
  have z10 := F.t1
  have z11 := F.d1
  have z12 := F.d2
  have z13 := F.d3
  have z14 := F.d4
  have z15 := F.d5
  have z16 := F.fasize
  clear F
  have v0 := kn0
  have v1 := kn1
  have v2 := kn2
  have v3 := kn3
  have v4 := kn4
  have v5 := kn5
  have v6 := kn6
  have v7 := kn7
  have v8 := kn8
  have v9 := kn9
  have v10 := kn10
  have v11 := kn11
  have v12 := kn12
  have v13 := kn13
  have v14 := kn14
  have v15 := kn15
  have v16 := kn16
  have v17 := kn17
  have v18 := kn18
  have v19 := kn19
  have v20 := kn20
  have v21 := kn21
  have v22 := kn22
  have v23 := kn23
  have v24 := kn24
  have v25 := kn25
  have v26 := kn26
  have v27 := kn27
  have v28 := kn28
  conv => arg 2; whnf
  go_wp2_with (first | (go_at_call 5; refine (works_c _).mono ?_; rintro e w1 ⟨rfl, hb⟩) | (go_at_call 19; refine (HR.out _).mono ?_; rintro e w1 ⟨rfl, hb⟩) | (go_at_call 23; (with_reducible refine (U32min_c _).mono ?_); rintro e w1 ⟨rfl, hb⟩) | (go_at_call 24; (with_reducible refine (S32max_c _).mono ?_); rintro e w1 ⟨rfl, hb⟩) | (go_at_call 26; (with_reducible refine (Partmax_c _).mono ?_); rintro e w1 ⟨rfl, hb⟩) | (go_at_call 20; refine (says_c _ _).mono ?_; rintro e w1 ⟨g, rfl, hc, hb⟩) | (go_at_call 42; refine (says1_c _ _ _ _ _ (by first | assumption | exact Ext.cell (by assumption) (by assumption))).mono ?_; rintro e w1 ⟨rfl, hb⟩) | (go_at_call 22; refine (stops_c _ _).mono ?_; rintro e w1 ⟨g, rfl, hc, hb⟩) | (go_at_call 44; refine (stops1_c _ _ _ _ _ (by first | assumption | exact Ext.cell (by assumption) (by assumption))).mono ?_; rintro e w1 ⟨rfl, hb⟩) | (go_at_call 25; refine (is_c _ _).mono ?_; rintro e w1 ⟨g, rfl, hc, hb⟩) | (go_at_call 45; refine (is1_c _ _ _ _ _ (by first | assumption | exact Ext.cell (by assumption) (by assumption))).mono ?_; rintro e w1 ⟨rfl, hb⟩) | (go_at_call 27; refine (fails_c _ _).mono ?_; rintro e w1 ⟨g, rfl, hc, hb⟩) | (go_at_call 46; refine (fails1_c _ _ _ _ _ (by first | assumption | exact Ext.cell (by assumption) (by assumption))).mono ?_; rintro e w1 ⟨rfl, hb⟩) | (go_at_call 21; refine (U8_c _ _ _).mono ?_; rintro e w1 ⟨rfl, hb⟩) | (go_at_call 29; refine (U16_c _ _ _).mono ?_; rintro e w1 ⟨rfl, hb⟩) | (go_at_call 23; refine (U32_c _ _ _).mono ?_; rintro e w1 ⟨rfl, hb⟩) | (go_at_call 24; refine (S32_c _ _ _).mono ?_; rintro e w1 ⟨rfl, hb⟩) | (go_at_call 6; refine (PutU8_c _ _).mono ?_; rintro e w1 ⟨rfl, hb⟩) | (go_at_call 7; refine (PutU16_c _ _).mono ?_; rintro e w1 ⟨rfl, hb⟩) | (go_at_call 8; refine (PutU32_c _ _).mono ?_; rintro e w1 ⟨rfl, hb⟩) | (go_at_call 9; refine (PutS32_c _ _).mono ?_; rintro e w1 ⟨rfl, hb⟩) | (go_at_call 26; refine (Part_c _ _ _ _).mono ?_; rintro e w1 ⟨rfl, hb⟩) | (go_at_call 28; refine (Text_c _ _ _ (by first | decide | omega) _).mono ?_; rintro e w1 ⟨rfl, hb⟩) | (go_at_call 15; refine (PutText_c _ _ (by first | decide | omega) _).mono ?_; rintro e w1 ⟨rfl, hb⟩) | (go_at_call 17; refine (Pad_c _ _ (by first | decide | omega) _).mono ?_; rintro e w1 ⟨rfl, hb⟩))
  exact HK.out _ _ _ _ _ _ _ _ _ _ _ _ _ _ _ _ _ _ _ _ _ _ _ _ _ _ _ _ _ _ _ _ _ _ _ _ _ _ _ _ _ _ _ _ _ _ _ _ _ _ _ _ _ _ _ _ _ _ _ _ _ _ _ _ _ _ _ _ _ _ _ _ _ _ _ _ _ _ _ _ _ _ _ _ _ _ _ _ _ _ _ _ _ _ _ _ _ _ _ _ _ _ _ _ (by repeat (first | exact Ext.refl _ | assumption | apply Ext.alloc | apply Ext.drew | apply Ext.drewN | apply Ext.bytes | apply Ext.iter | refine Ext.setCell ?_ (by simp; omega) _ | refine Ext.trans ?_ (by assumption)))
end Go.Proofs.Ytimecmleaeimkaa
