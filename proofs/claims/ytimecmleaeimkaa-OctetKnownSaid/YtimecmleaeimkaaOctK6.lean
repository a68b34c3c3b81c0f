/- OctetKnown's region 6. -/
import Derived.Test.YtimecmleaeimkaaOctK0
import Derived.Test.YtimecmleaeimkaaBase5
import Derived.Deep.CutRange
namespace Go.Proofs.Ytimecmleaeimkaa
open Go.RowKit
set_option linter.unusedVariables false
attribute [local go_sem] clo
set_option maxHeartbeats 8000000 in
set_option maxRecDepth 100000 in
theorem okr6 (full fa ft : ByteArray) (F : Full full fa ft) (w W : World) (hw : Ext w W) (c : Code) (hc : pieceK 6 = c) (c0 c3 c4 c5 c6 c7 c8 c9 c10 c11 c12 c13 c14 c15 c16 c17 c18 c19 c20 c21 c22 c23 c24 c25 c26 c27 c28 c29 c30 c31 c32 c33 c34 c35 c36 c37 c38 c39 c40 c41 c42 c43 c44 c45 c46 c47 c48 c49 c50 c51 c52 c53 c54 c55 c56 c57 c58 c59 c60 c61 c62 c63 c64 c65 c66 c67 c68 c69 c70 c71 c72 c73 c74 c75 c76 c77 c78 c79 c80 c81 c82 c83 c84 c85 c86 c87 c88 c89 c90 c91 c92 c93 c94 c95 c96 c97 c98 c99 c100 c101 c102 c103 c104 c105 c106 c107 c108 c109 c110 c111 c112 c113 c114 c115 c116 c117 c118 c119 c120 c121 c122 c123 c124 c125 c126 c127 c128 c129 c130 c131 c132 c133 c134 c135 c136 c137 c138 c139 c140 c141 c142 c143 c144 c145 c146 c147 c148 c149 c150 c151 c152 c153 c154 c155 c156 c157 c158 c159 c160 c161 c162 c163 c164 c165 c166 c167 c168 c169 c170 c171 c172 c173 c174 c175 c240 c241 c242 c243 c244 c245 c246 c247 c248 c249 c250 c251 c252 c253 c254 c255 c256 c257 c258 c259 c260 c261 c262 c263 c264 c265 c266 c267 c268 c269 c270 c271 c272 c273 c274 c275 c276 c277 c278 c279 c280 c281 c282 c283 c284 c285 c286 c287 c288 c289 c290 c291 c292 c293 c294 c295 c296 c297 c298 c299 c300 c301 c302 c303 c304 c305 c306 c307 c308 c309 c310 c311 c312 c313 c314 c315 c316 c317 c318 c319 c320 c321 c322 c323 c324 c325 c326 c327 c328 c329 c330 c331 c332 c333 c334 c335 c336 c337 c338 c339 c340 c341 c342 c343 p176 p177 p178 p179 p180 p181 p182 p183 p184 p185 p186 p187 p188 p189 p190 p191 p192 p193 p194 p195 p196 p197 p198 p199 p200 p201 p202 p203 p204 p205 p206 p207 p208 p209 p210 p211 p212 p213 p214 p215 p216 p217 p218 p219 p220 p221 p222 p223 p224 p225 p226 p227 p228 p229 p230 p231 p232 p233 p234 p235 p236 p237 p238 p239 : Value) (K : Act → World → Prop) (Q : Exit → Act → World → Prop)
    (hK : ∀ (u176 u177 u178 u179 u180 u181 u182 u183 u184 u185 u186 u187 u188 u189 u190 u191 u192 u193 u194 u195 u196 u197 u198 u199 u200 u201 u202 u203 u204 u205 u206 u207 u208 u209 u210 u211 u212 u213 u214 u215 u216 u217 u218 u219 u220 u221 u222 u223 u224 u225 u226 u227 u228 u229 u230 u231 u232 u233 u234 u235 u236 u237 u238 u239 : Value) (W' : World), Ext w W' → K ⟨#[c0, .string full, .bool true, c3, c4, c5, c6, c7, c8, c9, c10, c11, c12, c13, c14, c15, c16, c17, c18, c19, c20, c21, c22, c23, c24, c25, c26, c27, c28, c29, c30, c31, c32, c33, c34, c35, c36, c37, c38, c39, c40, c41, c42, c43, c44, c45, c46, c47, c48, c49, c50, c51, c52, c53, c54, c55, c56, c57, c58, c59, c60, c61, c62, c63, c64, c65, c66, c67, c68, c69, c70, c71, c72, c73, c74, c75, c76, c77, c78, c79, c80, c81, c82, c83, c84, c85, c86, c87, c88, c89, c90, c91, c92, c93, c94, c95, c96, c97, c98, c99, c100, c101, c102, c103, c104, c105, c106, c107, c108, c109, c110, c111, c112, c113, c114, c115, c116, c117, c118, c119, c120, c121, c122, c123, c124, c125, c126, c127, c128, c129, c130, c131, c132, c133, c134, c135, c136, c137, c138, c139, c140, c141, c142, c143, c144, c145, c146, c147, c148, c149, c150, c151, c152, c153, c154, c155, c156, c157, c158, c159, c160, c161, c162, c163, c164, c165, c166, c167, c168, c169, c170, c171, c172, c173, c174, c175, u176, u177, u178, u179, u180, u181, u182, u183, u184, u185, u186, u187, u188, u189, u190, u191, u192, u193, u194, u195, u196, u197, u198, u199, u200, u201, u202, u203, u204, u205, u206, u207, u208, u209, u210, u211, u212, u213, u214, u215, u216, u217, u218, u219, u220, u221, u222, u223, u224, u225, u226, u227, u228, u229, u230, u231, u232, u233, u234, u235, u236, u237, u238, u239, c240, c241, c242, c243, c244, c245, c246, c247, c248, c249, c250, c251, c252, c253, c254, c255, c256, c257, c258, c259, c260, c261, c262, c263, c264, c265, c266, c267, c268, c269, c270, c271, c272, c273, c274, c275, c276, c277, c278, c279, c280, c281, c282, c283, c284, c285, c286, c287, c288, c289, c290, c291, c292, c293, c294, c295, c296, c297, c298, c299, c300, c301, c302, c303, c304, c305, c306, c307, c308, c309, c310, c311, c312, c313, c314, c315, c316, c317, c318, c319, c320, c321, c322, c323, c324, c325, c326, c327, c328, c329, c330, c331, c332, c333, c334, c335, c336, c337, c338, c339, c340, c341, c342, c343], []⟩ W') :
    Code.wp Try.prog c (Exit.then K Q) ⟨#[c0, .string full, .bool true, c3, c4, c5, c6, c7, c8, c9, c10, c11, c12, c13, c14, c15, c16, c17, c18, c19, c20, c21, c22, c23, c24, c25, c26, c27, c28, c29, c30, c31, c32, c33, c34, c35, c36, c37, c38, c39, c40, c41, c42, c43, c44, c45, c46, c47, c48, c49, c50, c51, c52, c53, c54, c55, c56, c57, c58, c59, c60, c61, c62, c63, c64, c65, c66, c67, c68, c69, c70, c71, c72, c73, c74, c75, c76, c77, c78, c79, c80, c81, c82, c83, c84, c85, c86, c87, c88, c89, c90, c91, c92, c93, c94, c95, c96, c97, c98, c99, c100, c101, c102, c103, c104, c105, c106, c107, c108, c109, c110, c111, c112, c113, c114, c115, c116, c117, c118, c119, c120, c121, c122, c123, c124, c125, c126, c127, c128, c129, c130, c131, c132, c133, c134, c135, c136, c137, c138, c139, c140, c141, c142, c143, c144, c145, c146, c147, c148, c149, c150, c151, c152, c153, c154, c155, c156, c157, c158, c159, c160, c161, c162, c163, c164, c165, c166, c167, c168, c169, c170, c171, c172, c173, c174, c175, p176, p177, p178, p179, p180, p181, p182, p183, p184, p185, p186, p187, p188, p189, p190, p191, p192, p193, p194, p195, p196, p197, p198, p199, p200, p201, p202, p203, p204, p205, p206, p207, p208, p209, p210, p211, p212, p213, p214, p215, p216, p217, p218, p219, p220, p221, p222, p223, p224, p225, p226, p227, p228, p229, p230, p231, p232, p233, p234, p235, p236, p237, p238, p239, c240, c241, c242, c243, c244, c245, c246, c247, c248, c249, c250, c251, c252, c253, c254, c255, c256, c257, c258, c259, c260, c261, c262, c263, c264, c265, c266, c267, c268, c269, c270, c271, c272, c273, c274, c275, c276, c277, c278, c279, c280, c281, c282, c283, c284, c285, c286, c287, c288, c289, c290, c291, c292, c293, c294, c295, c296, c297, c298, c299, c300, c301, c302, c303, c304, c305, c306, c307, c308, c309, c310, c311, c312, c313, c314, c315, c316, c317, c318, c319, c320, c321, c322, c323, c324, c325, c326, c327, c328, c329, c330, c331, c332, c333, c334, c335, c336, c337, c338, c339, c340, c341, c342, c343], []⟩ W := by
  subst hc
  have HK := Hd.mk hK
  clear hK
  have z0 := F.size
  have z1 := F.add
  have z2 := F.cut
  have z3 := F.tsize
  have z4 := F.g1
  have z5 := F.g2
  have z6 := F.g3
  have z7 := F.g4
  have z8 := F.p1
  have z9 := F.p2
  have z10 := F.t1
  have z11 := F.d1
  have z12 := F.d2
  have z13 := F.d3
  have z14 := F.d4
  have z15 := F.d5
  have z16 := F.fasize
  clear F
  have v0 := kn0
  have v1 := kn1
  have v2 := kn2
  have v3 := kn3
  have v4 := kn4
  have v5 := kn5
  have v6 := kn6
  have v7 := kn7
  have v8 := kn8
  have v9 := kn9
  have v10 := kn10
  have v11 := kn11
  have v12 := kn12
  have v13 := kn13
  have v14 := kn14
  have v15 := kn15
  have v16 := kn16
  have v17 := kn17
  have v18 := kn18
  have v19 := kn19
  have v20 := kn20
  have v21 := kn21
  have v22 := kn22
  have v23 := kn23
  have v24 := kn24
  have v25 := kn25
  have v26 := kn26
  have v27 := kn27
  have v28 := kn28
  conv => arg 2; whnf
  go_wp2_with (first | (go_at_call 5; refine (works_c _).mono ?_; rintro e w1 ⟨rfl, hb⟩) | (go_at_call 19; refine (HR.out _).mono ?_; rintro e w1 ⟨rfl, hb⟩) | (go_at_call 23; (with_reducible refine (U32min_c _).mono ?_); rintro e w1 ⟨rfl, hb⟩) | (go_at_call 24; (with_reducible refine (S32max_c _).mono ?_); rintro e w1 ⟨rfl, hb⟩) | (go_at_call 26; (with_reducible refine (Partmax_c _).mono ?_); rintro e w1 ⟨rfl, hb⟩) | (go_at_call 20; refine (says_c _ _).mono ?_; rintro e w1 ⟨g, rfl, hc, hb⟩) | (go_at_call 42; refine (says1_c _ _ _ _ _ (by first | assumption | exact Ext.cell (by assumption) (by assumption))).mono ?_; rintro e w1 ⟨rfl, hb⟩) | (go_at_call 22; refine (stops_c _ _).mono ?_; rintro e w1 ⟨g, rfl, hc, hb⟩) | (go_at_call 44; refine (stops1_c _ _ _ _ _ (by first | assumption | exact Ext.cell (by assumption) (by assumption))).mono ?_; rintro e w1 ⟨rfl, hb⟩) | (go_at_call 25; refine (is_c _ _).mono ?_; rintro e w1 ⟨g, rfl, hc, hb⟩) | (go_at_call 45; refine (is1_c _ _ _ _ _ (by first | assumption | exact Ext.cell (by assumption) (by assumption))).mono ?_; rintro e w1 ⟨rfl, hb⟩) | (go_at_call 27; refine (fails_c _ _).mono ?_; rintro e w1 ⟨g, rfl, hc, hb⟩) | (go_at_call 46; refine (fails1_c _ _ _ _ _ (by first | assumption | exact Ext.cell (by assumption) (by assumption))).mono ?_; rintro e w1 ⟨rfl, hb⟩) | (go_at_call 21; refine (U8_c _ _ _).mono ?_; rintro e w1 ⟨rfl, hb⟩) | (go_at_call 29; refine (U16_c _ _ _).mono ?_; rintro e w1 ⟨rfl, hb⟩) | (go_at_call 23; refine (U32_c _ _ _).mono ?_; rintro e w1 ⟨rfl, hb⟩) | (go_at_call 24; refine (S32_c _ _ _).mono ?_; rintro e w1 ⟨rfl, hb⟩) | (go_at_call 6; refine (PutU8_c _ _).mono ?_; rintro e w1 ⟨rfl, hb⟩) | (go_at_call 7; refine (PutU16_c _ _).mono ?_; rintro e w1 ⟨rfl, hb⟩) | (go_at_call 8; refine (PutU32_c _ _).mono ?_; rintro e w1 ⟨rfl, hb⟩) | (go_at_call 9; refine (PutS32_c _ _).mono ?_; rintro e w1 ⟨rfl, hb⟩) | (go_at_call 26; refine (Part_c _ _ _ _).mono ?_; rintro e w1 ⟨rfl, hb⟩) | (go_at_call 28; refine (Text_c _ _ _ (by first | decide | omega) _).mono ?_; rintro e w1 ⟨rfl, hb⟩) | (go_at_call 15; refine (PutText_c _ _ (by first | decide | omega) _).mono ?_; rintro e w1 ⟨rfl, hb⟩) | (go_at_call 17; refine (Pad_c _ _ (by first | decide | omega) _).mono ?_; rintro e w1 ⟨rfl, hb⟩))
  exact HK.out _ _ _ _ _ _ _ _ _ _ _ _ _ _ _ _ _ _ _ _ _ _ _ _ _ _ _ _ _ _ _ _ _ _ _ _ _ _ _ _ _ _ _ _ _ _ _ _ _ _ _ _ _ _ _ _ _ _ _ _ _ _ _ _ _ (by repeat (first | exact Ext.refl _ | assumption | apply Ext.alloc | apply Ext.drew | apply Ext.drewN | apply Ext.bytes | apply Ext.iter | refine Ext.setCell ?_ (by simp; omega) _ | refine Ext.trans ?_ (by assumption)))
end Go.Proofs.Ytimecmleaeimkaa
