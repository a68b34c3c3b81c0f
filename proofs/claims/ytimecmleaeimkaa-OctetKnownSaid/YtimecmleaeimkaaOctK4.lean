/- OctetKnown's region 4. -/
import Derived.Test.YtimecmleaeimkaaOctK0
import Derived.Test.YtimecmleaeimkaaBase5
import Derived.Deep.CutRange
namespace Go.Proofs.Ytimecmleaeimkaa
open Go.RowKit
set_option linter.unusedVariables false
attribute [local go_sem] clo
set_option maxHeartbeats 8000000 in
set_option maxRecDepth 100000 in
theorem okr4 (full fa ft : ByteArray) (F : Full full fa ft) (w W : World) (hw : Ext w W) (c : Code) (hc : pieceK 4 = c) (c0 c3 c4 c5 c73 c74 c75 c76 c77 c78 c79 c80 c81 c82 c83 c84 c85 c86 c87 c88 c89 c90 c91 c92 c93 c94 c95 c96 c97 c98 c99 c100 c101 c102 c103 c104 c105 c106 c107 c108 c109 c110 c111 c112 c113 c114 c115 c116 c117 c118 c119 c120 c121 c122 c123 c124 c125 c126 c127 c128 c129 c130 c131 c132 c133 c134 c135 c136 c137 c138 c139 c140 c141 c142 c143 c144 c145 c146 c147 c148 c149 c150 c151 c152 c153 c154 c155 c156 c157 c158 c159 c160 c161 c162 c163 c164 c165 c166 c167 c168 c169 c170 c171 c172 c173 c174 c175 c176 c177 c178 c179 c180 c181 c182 c183 c184 c185 c186 c187 c188 c189 c190 c191 c192 c193 c194 c195 c196 c197 c198 c199 c200 c201 c202 c203 c204 c205 c206 c207 c208 c209 c210 c211 c212 c213 c214 c215 c216 c217 c218 c219 c220 c221 c222 c223 c224 c225 c226 c227 c228 c229 c230 c231 c232 c233 c234 c235 c236 c237 c238 c239 c240 c241 c242 c243 c244 c245 c246 c247 c248 c249 c250 c251 c252 c253 c254 c255 c256 c257 c258 c259 c260 c261 c262 c263 c264 c265 c266 c267 c268 c269 c270 c271 c272 c273 c274 c275 c276 c277 c278 c279 c280 c281 c282 c283 c284 c285 c286 c287 c288 c289 c290 c291 c292 c293 c294 c295 c296 c297 c298 c299 c300 c301 c302 c303 c304 c305 c306 c307 c308 c309 c310 c311 c312 c313 c314 c315 c316 c317 c318 c319 c320 c321 c322 c323 c324 c325 c326 c327 c328 c329 c330 c331 c332 c333 c334 c335 c336 c337 c338 c339 c340 c341 c342 c343 p6 p7 p8 p9 p10 p11 p12 p13 p14 p15 p16 p17 p18 p19 p20 p21 p22 p23 p24 p25 p26 p27 p28 p29 p30 p31 p32 p33 p34 p35 p36 p37 p38 p39 p40 p41 p42 p43 p44 p45 p46 p47 p48 p49 p50 p51 p52 p53 p54 p55 p56 p57 p58 p59 p60 p61 p62 p63 p64 p65 p66 p67 p68 p69 p70 p71 p72 c2 : Value) (K : Act → World → Prop) (Q : Exit → Act → World → Prop)
    (hK : ∀ (u6 u7 u8 u9 u10 u11 u12 u13 u14 u15 u16 u17 u18 u19 u20 u21 u22 u23 u24 u25 u26 u27 u28 u29 u30 u31 u32 u33 u34 u35 u36 u37 u38 u39 u40 u41 u42 u43 u44 u45 u46 u47 u48 u49 u50 u51 u52 u53 u54 u55 u56 u57 u58 u59 u60 u61 u62 u63 u64 u65 u66 u67 u68 u69 u70 u71 u72 : Value) (W' : World), Ext w W' → K ⟨#[c0, .string full, .bool true, c3, c4, c5, u6, u7, u8, u9, u10, u11, u12, u13, u14, u15, u16, u17, u18, u19, u20, u21, u22, u23, u24, u25, u26, u27, u28, u29, u30, u31, u32, u33, u34, u35, u36, u37, u38, u39, u40, u41, u42, u43, u44, u45, u46, u47, u48, u49, u50, u51, u52, u53, u54, u55, u56, u57, u58, u59, u60, u61, u62, u63, u64, u65, u66, u67, u68, u69, u70, u71, u72, c73, c74, c75, c76, c77, c78, c79, c80, c81, c82, c83, c84, c85, c86, c87, c88, c89, c90, c91, c92, c93, c94, c95, c96, c97, c98, c99, c100, c101, c102, c103, c104, c105, c106, c107, c108, c109, c110, c111, c112, c113, c114, c115, c116, c117, c118, c119, c120, c121, c122, c123, c124, c125, c126, c127, c128, c129, c130, c131, c132, c133, c134, c135, c136, c137, c138, c139, c140, c141, c142, c143, c144, c145, c146, c147, c148, c149, c150, c151, c152, c153, c154, c155, c156, c157, c158, c159, c160, c161, c162, c163, c164, c165, c166, c167, c168, c169, c170, c171, c172, c173, c174, c175, c176, c177, c178, c179, c180, c181, c182, c183, c184, c185, c186, c187, c188, c189, c190, c191, c192, c193, c194, c195, c196, c197, c198, c199, c200, c201, c202, c203, c204, c205, c206, c207, c208, c209, c210, c211, c212, c213, c214, c215, c216, c217, c218, c219, c220, c221, c222, c223, c224, c225, c226, c227, c228, c229, c230, c231, c232, c233, c234, c235, c236, c237, c238, c239, c240, c241, c242, c243, c244, c245, c246, c247, c248, c249, c250, c251, c252, c253, c254, c255, c256, c257, c258, c259, c260, c261, c262, c263, c264, c265, c266, c267, c268, c269, c270, c271, c272, c273, c274, c275, c276, c277, c278, c279, c280, c281, c282, c283, c284, c285, c286, c287, c288, c289, c290, c291, c292, c293, c294, c295, c296, c297, c298, c299, c300, c301, c302, c303, c304, c305, c306, c307, c308, c309, c310, c311, c312, c313, c314, c315, c316, c317, c318, c319, c320, c321, c322, c323, c324, c325, c326, c327, c328, c329, c330, c331, c332, c333, c334, c335, c336, c337, c338, c339, c340, c341, c342, c343], []⟩ W') :
    Code.wp Try.prog c (Exit.then K Q) ⟨#[c0, .string full, c2, c3, c4, c5, p6, p7, p8, p9, p10, p11, p12, p13, p14, p15, p16, p17, p18, p19, p20, p21, p22, p23, p24, p25, p26, p27, p28, p29, p30, p31, p32, p33, p34, p35, p36, p37, p38, p39, p40, p41, p42, p43, p44, p45, p46, p47, p48, p49, p50, p51, p52, p53, p54, p55, p56, p57, p58, p59, p60, p61, p62, p63, p64, p65, p66, p67, p68, p69, p70, p71, p72, c73, c74, c75, c76, c77, c78, c79, c80, c81, c82, c83, c84, c85, c86, c87, c88, c89, c90, c91, c92, c93, c94, c95, c96, c97, c98, c99, c100, c101, c102, c103, c104, c105, c106, c107, c108, c109, c110, c111, c112, c113, c114, c115, c116, c117, c118, c119, c120, c121, c122, c123, c124, c125, c126, c127, c128, c129, c130, c131, c132, c133, c134, c135, c136, c137, c138, c139, c140, c141, c142, c143, c144, c145, c146, c147, c148, c149, c150, c151, c152, c153, c154, c155, c156, c157, c158, c159, c160, c161, c162, c163, c164, c165, c166, c167, c168, c169, c170, c171, c172, c173, c174, c175, c176, c177, c178, c179, c180, c181, c182, c183, c184, c185, c186, c187, c188, c189, c190, c191, c192, c193, c194, c195, c196, c197, c198, c199, c200, c201, c202, c203, c204, c205, c206, c207, c208, c209, c210, c211, c212, c213, c214, c215, c216, c217, c218, c219, c220, c221, c222, c223, c224, c225, c226, c227, c228, c229, c230, c231, c232, c233, c234, c235, c236, c237, c238, c239, c240, c241, c242, c243, c244, c245, c246, c247, c248, c249, c250, c251, c252, c253, c254, c255, c256, c257, c258, c259, c260, c261, c262, c263, c264, c265, c266, c267, c268, c269, c270, c271, c272, c273, c274, c275, c276, c277, c278, c279, c280, c281, c282, c283, c284, c285, c286, c287, c288, c289, c290, c291, c292, c293, c294, c295, c296, c297, c298, c299, c300, c301, c302, c303, c304, c305, c306, c307, c308, c309, c310, c311, c312, c313, c314, c315, c316, c317, c318, c319, c320, c321, c322, c323, c324, c325, c326, c327, c328, c329, c330, c331, c332, c333, c334, c335, c336, c337, c338, c339, c340, c341, c342, c343], []⟩ W := by
  subst hc
  have HK := Hd.mk hK
  clear hK
  have z0 := F.size
  have z1 := F.add
  have z2 := F.cut
  have z3 := F.tsize
  have z4 := F.g1
  have z5 := F.g2
  have z6 := F.g3
  have z7 := F.g4
  have z8 := F.p1
  have z9 := F.p2
  have z10 := F.t1
  have z11 := F.d1
  have z12 := F.d2
  have z13 := F.d3
  have z14 := F.d4
  have z15 := F.d5
  have z16 := F.fasize
  clear F
  have v0 := kn0
  have v1 := kn1
  have v2 := kn2
  have v3 := kn3
  have v4 := kn4
  have v5 := kn5
  have v6 := kn6
  have v7 := kn7
  have v8 := kn8
  have v9 := kn9
  have v10 := kn10
  have v11 := kn11
  have v12 := kn12
  have v13 := kn13
  have v14 := kn14
  have v15 := kn15
  have v16 := kn16
  have v17 := kn17
  have v18 := kn18
  have v19 := kn19
  have v20 := kn20
  have v21 := kn21
  have v22 := kn22
  have v23 := kn23
  have v24 := kn24
  have v25 := kn25
  have v26 := kn26
  have v27 := kn27
  have v28 := kn28
  conv => arg 2; whnf
  go_wp2_with (first | (go_at_call 5; refine (works_c _).mono ?_; rintro e w1 ⟨rfl, hb⟩) | (go_at_call 19; refine (HR.out _).mono ?_; rintro e w1 ⟨rfl, hb⟩) | (go_at_call 23; (with_reducible refine (U32min_c _).mono ?_); rintro e w1 ⟨rfl, hb⟩) | (go_at_call 24; (with_reducible refine (S32max_c _).mono ?_); rintro e w1 ⟨rfl, hb⟩) | (go_at_call 26; (with_reducible refine (Partmax_c _).mono ?_); rintro e w1 ⟨rfl, hb⟩) | (go_at_call 20; refine (says_c _ _).mono ?_; rintro e w1 ⟨g, rfl, hc, hb⟩) | (go_at_call 42; refine (says1_c _ _ _ _ _ (by first | assumption | exact Ext.cell (by assumption) (by assumption))).mono ?_; rintro e w1 ⟨rfl, hb⟩) | (go_at_call 22; refine (stops_c _ _).mono ?_; rintro e w1 ⟨g, rfl, hc, hb⟩) | (go_at_call 44; refine (stops1_c _ _ _ _ _ (by first | assumption | exact Ext.cell (by assumption) (by assumption))).mono ?_; rintro e w1 ⟨rfl, hb⟩) | (go_at_call 25; refine (is_c _ _).mono ?_; rintro e w1 ⟨g, rfl, hc, hb⟩) | (go_at_call 45; refine (is1_c _ _ _ _ _ (by first | assumption | exact Ext.cell (by assumption) (by assumption))).mono ?_; rintro e w1 ⟨rfl, hb⟩) | (go_at_call 27; refine (fails_c _ _).mono ?_; rintro e w1 ⟨g, rfl, hc, hb⟩) | (go_at_call 46; refine (fails1_c _ _ _ _ _ (by first | assumption | exact Ext.cell (by assumption) (by assumption))).mono ?_; rintro e w1 ⟨rfl, hb⟩) | (go_at_call 21; refine (U8_c _ _ _).mono ?_; rintro e w1 ⟨rfl, hb⟩) | (go_at_call 29; refine (U16_c _ _ _).mono ?_; rintro e w1 ⟨rfl, hb⟩) | (go_at_call 23; refine (U32_c _ _ _).mono ?_; rintro e w1 ⟨rfl, hb⟩) | (go_at_call 24; refine (S32_c _ _ _).mono ?_; rintro e w1 ⟨rfl, hb⟩) | (go_at_call 6; refine (PutU8_c _ _).mono ?_; rintro e w1 ⟨rfl, hb⟩) | (go_at_call 7; refine (PutU16_c _ _).mono ?_; rintro e w1 ⟨rfl, hb⟩) | (go_at_call 8; refine (PutU32_c _ _).mono ?_; rintro e w1 ⟨rfl, hb⟩) | (go_at_call 9; refine (PutS32_c _ _).mono ?_; rintro e w1 ⟨rfl, hb⟩) | (go_at_call 26; refine (Part_c _ _ _ _).mono ?_; rintro e w1 ⟨rfl, hb⟩) | (go_at_call 28; refine (Text_c _ _ _ (by first | decide | omega) _).mono ?_; rintro e w1 ⟨rfl, hb⟩) | (go_at_call 15; refine (PutText_c _ _ (by first | decide | omega) _).mono ?_; rintro e w1 ⟨rfl, hb⟩) | (go_at_call 17; refine (Pad_c _ _ (by first | decide | omega) _).mono ?_; rintro e w1 ⟨rfl, hb⟩))
  exact HK.out _ _ _ _ _ _ _ _ _ _ _ _ _ _ _ _ _ _ _ _ _ _ _ _ _ _ _ _ _ _ _ _ _ _ _ _ _ _ _ _ _ _ _ _ _ _ _ _ _ _ _ _ _ _ _ _ _ _ _ _ _ _ _ _ _ _ _ _ (by repeat (first | exact Ext.refl _ | assumption | apply Ext.alloc | apply Ext.drew | apply Ext.drewN | apply Ext.bytes | apply Ext.iter | refine Ext.setCell ?_ (by simp; omega) _ | refine Ext.trans ?_ (by assumption)))
end Go.Proofs.Ytimecmleaeimkaa
