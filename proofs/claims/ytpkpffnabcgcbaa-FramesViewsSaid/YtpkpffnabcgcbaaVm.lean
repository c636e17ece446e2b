/-
  The switch of the body of the law FramesViews.
-/
import Derived.Test.YtpkpffnabcgcbaaVj
namespace Go.Proofs.Ytpkpffnabcgcbaa
open Go.RowKit

set_option maxHeartbeats 8000000 in
set_option maxRecDepth 100000 in
theorem switch_of {what : Int} {q8 : Nat} {s0 s1 s2 s3 s4 s5 s6 s7 s9 s10 s11 s12 s13 : Value} {w : World} (Q : Exit → Act → World → Prop) (tl : List Value) (htl : tl.length = 278)
    (x0 : w.cell? ⟨q8, 0, none⟩ = some (.int .i64 what)) (_hq8 : q8 < w.heap.size)
    (h0 : what = 0 → ∀ tl' : List Value, tl'.length = 278 → Code.wp Try.prog (cutAt (codeOf Try.f4) [true, true, true, true, false, true, false, false, true, false, false, true, true, true, true, true, true, true, false, true, false, true, false]) (Exit.inBlock 2 Q) ⟨(s0 :: s1 :: s2 :: s3 :: s4 :: s5 :: s6 :: s7 :: .pointer (some ⟨q8, 0, none⟩) :: s9 :: s10 :: s11 :: s12 :: s13 :: tl').toArray, []⟩ w)
    (h1 : what = 1 → ∀ tl' : List Value, tl'.length = 278 → Code.wp Try.prog (cutAt (codeOf Try.f4) [true, true, true, true, false, true, false, false, true, false, false, true, true, true, true, true, true, true, false, true, false, true, true, true, false]) (Exit.inBlock 2 Q) ⟨(s0 :: s1 :: s2 :: s3 :: s4 :: s5 :: s6 :: s7 :: .pointer (some ⟨q8, 0, none⟩) :: s9 :: s10 :: s11 :: s12 :: s13 :: tl').toArray, []⟩ w)
    (h2 : what = 2 → ∀ tl' : List Value, tl'.length = 278 → Code.wp Try.prog (cutAt (codeOf Try.f4) [true, true, true, true, false, true, false, false, true, false, false, true, true, true, true, true, true, true, false, true, false, true, true, true, true, true, false]) (Exit.inBlock 2 Q) ⟨(s0 :: s1 :: s2 :: s3 :: s4 :: s5 :: s6 :: s7 :: .pointer (some ⟨q8, 0, none⟩) :: s9 :: s10 :: s11 :: s12 :: s13 :: tl').toArray, []⟩ w)
    (h3 : what = 3 → ∀ tl' : List Value, tl'.length = 278 → Code.wp Try.prog (cutAt (codeOf Try.f4) [true, true, true, true, false, true, false, false, true, false, false, true, true, true, true, true, true, true, false, true, false, true, true, true, true, true, true, true, false]) (Exit.inBlock 2 Q) ⟨(s0 :: s1 :: s2 :: s3 :: s4 :: s5 :: s6 :: s7 :: .pointer (some ⟨q8, 0, none⟩) :: s9 :: s10 :: s11 :: s12 :: s13 :: tl').toArray, []⟩ w)
    (h4 : what = 4 → ∀ tl' : List Value, tl'.length = 278 → Code.wp Try.prog (cutAt (codeOf Try.f4) [true, true, true, true, false, true, false, false, true, false, false, true, true, true, true, true, true, true, false, true, false, true, true, true, true, true, true, true, true, true, false]) (Exit.inBlock 2 Q) ⟨(s0 :: s1 :: s2 :: s3 :: s4 :: s5 :: s6 :: s7 :: .pointer (some ⟨q8, 0, none⟩) :: s9 :: s10 :: s11 :: s12 :: s13 :: tl').toArray, []⟩ w)
    (h5 : what = 5 → ∀ tl' : List Value, tl'.length = 278 → Code.wp Try.prog (cutAt (codeOf Try.f4) [true, true, true, true, false, true, false, false, true, false, false, true, true, true, true, true, true, true, false, true, false, true, true, true, true, true, true, true, true, true, true, true, false]) (Exit.inBlock 2 Q) ⟨(s0 :: s1 :: s2 :: s3 :: s4 :: s5 :: s6 :: s7 :: .pointer (some ⟨q8, 0, none⟩) :: s9 :: s10 :: s11 :: s12 :: s13 :: tl').toArray, []⟩ w)
    (h6 : what = 6 → ∀ tl' : List Value, tl'.length = 278 → Code.wp Try.prog (cutAt (codeOf Try.f4) [true, true, true, true, false, true, false, false, true, false, false, true, true, true, true, true, true, true, false, true, false, true, true, true, true, true, true, true, true, true, true, true, true, true, false]) (Exit.inBlock 2 Q) ⟨(s0 :: s1 :: s2 :: s3 :: s4 :: s5 :: s6 :: s7 :: .pointer (some ⟨q8, 0, none⟩) :: s9 :: s10 :: s11 :: s12 :: s13 :: tl').toArray, []⟩ w)
    (h7 : what = 7 → ∀ tl' : List Value, tl'.length = 278 → Code.wp Try.prog (cutAt (codeOf Try.f4) [true, true, true, true, false, true, false, false, true, false, false, true, true, true, true, true, true, true, false, true, false, true, true, true, true, true, true, true, true, true, true, true, true, true, true, true, false]) (Exit.inBlock 2 Q) ⟨(s0 :: s1 :: s2 :: s3 :: s4 :: s5 :: s6 :: s7 :: .pointer (some ⟨q8, 0, none⟩) :: s9 :: s10 :: s11 :: s12 :: s13 :: tl').toArray, []⟩ w)
    (hN : what ≠ 0 → what ≠ 1 → what ≠ 2 → what ≠ 3 → what ≠ 4 → what ≠ 5 → what ≠ 6 → what ≠ 7 → ∀ tl' : List Value, tl'.length = 278 → Q .normal ⟨(s0 :: s1 :: s2 :: s3 :: s4 :: s5 :: s6 :: s7 :: .pointer (some ⟨q8, 0, none⟩) :: s9 :: s10 :: s11 :: s12 :: s13 :: tl').toArray, []⟩ w) :
    Code.wp Try.prog (cutAt (codeOf Try.f4) [true, true, true, true, false, true, false, false, true, false, false, true, true, true, true, true, true, true, false]) Q ⟨(s0 :: s1 :: s2 :: s3 :: s4 :: s5 :: s6 :: s7 :: .pointer (some ⟨q8, 0, none⟩) :: s9 :: s10 :: s11 :: s12 :: s13 :: tl).toArray, []⟩ w := by
  change Code.wp Try.prog (Code.seq _ (Code.block _ (Code.seq _ (Code.cond _ (cutAt (codeOf Try.f4) [true, true, true, true, false, true, false, false, true, false, false, true, true, true, true, true, true, true, false, true, false, true, false]) (Code.seq _ (Code.cond _ (cutAt (codeOf Try.f4) [true, true, true, true, false, true, false, false, true, false, false, true, true, true, true, true, true, true, false, true, false, true, true, true, false]) (Code.seq _ (Code.cond _ (cutAt (codeOf Try.f4) [true, true, true, true, false, true, false, false, true, false, false, true, true, true, true, true, true, true, false, true, false, true, true, true, true, true, false]) (Code.seq _ (Code.cond _ (cutAt (codeOf Try.f4) [true, true, true, true, false, true, false, false, true, false, false, true, true, true, true, true, true, true, false, true, false, true, true, true, true, true, true, true, false]) (Code.seq _ (Code.cond _ (cutAt (codeOf Try.f4) [true, true, true, true, false, true, false, false, true, false, false, true, true, true, true, true, true, true, false, true, false, true, true, true, true, true, true, true, true, true, false]) (Code.seq _ (Code.cond _ (cutAt (codeOf Try.f4) [true, true, true, true, false, true, false, false, true, false, false, true, true, true, true, true, true, true, false, true, false, true, true, true, true, true, true, true, true, true, true, true, false]) (Code.seq _ (Code.cond _ (cutAt (codeOf Try.f4) [true, true, true, true, false, true, false, false, true, false, false, true, true, true, true, true, true, true, false, true, false, true, true, true, true, true, true, true, true, true, true, true, true, true, false]) (Code.seq _ (Code.cond _ (cutAt (codeOf Try.f4) [true, true, true, true, false, true, false, false, true, false, false, true, true, true, true, true, true, true, false, true, false, true, true, true, true, true, true, true, true, true, true, true, true, true, true, true, false]) (Code.skip))))))))))))))))))) _ _ _
  have H0 := Lib.hid h0
  clear h0
  generalize cutAt (codeOf Try.f4) [true, true, true, true, false, true, false, false, true, false, false, true, true, true, true, true, true, true, false, true, false, true, false] = A0 at H0 ⊢
  have H1 := Lib.hid h1
  clear h1
  generalize cutAt (codeOf Try.f4) [true, true, true, true, false, true, false, false, true, false, false, true, true, true, true, true, true, true, false, true, false, true, true, true, false] = A1 at H1 ⊢
  have H2 := Lib.hid h2
  clear h2
  generalize cutAt (codeOf Try.f4) [true, true, true, true, false, true, false, false, true, false, false, true, true, true, true, true, true, true, false, true, false, true, true, true, true, true, false] = A2 at H2 ⊢
  have H3 := Lib.hid h3
  clear h3
  generalize cutAt (codeOf Try.f4) [true, true, true, true, false, true, false, false, true, false, false, true, true, true, true, true, true, true, false, true, false, true, true, true, true, true, true, true, false] = A3 at H3 ⊢
  have H4 := Lib.hid h4
  clear h4
  generalize cutAt (codeOf Try.f4) [true, true, true, true, false, true, false, false, true, false, false, true, true, true, true, true, true, true, false, true, false, true, true, true, true, true, true, true, true, true, false] = A4 at H4 ⊢
  have H5 := Lib.hid h5
  clear h5
  generalize cutAt (codeOf Try.f4) [true, true, true, true, false, true, false, false, true, false, false, true, true, true, true, true, true, true, false, true, false, true, true, true, true, true, true, true, true, true, true, true, false] = A5 at H5 ⊢
  have H6 := Lib.hid h6
  clear h6
  generalize cutAt (codeOf Try.f4) [true, true, true, true, false, true, false, false, true, false, false, true, true, true, true, true, true, true, false, true, false, true, true, true, true, true, true, true, true, true, true, true, true, true, false] = A6 at H6 ⊢
  have H7 := Lib.hid h7
  clear h7
  generalize cutAt (codeOf Try.f4) [true, true, true, true, false, true, false, false, true, false, false, true, true, true, true, true, true, true, false, true, false, true, true, true, true, true, true, true, true, true, true, true, true, true, true, true, false] = A7 at H7 ⊢
  have HN := Lib.hid hN
  clear hN
  revert htl
  revert tl
  refine fun tl htl => all_of (P := fun tl => Code.wp Try.prog _ Q ⟨(s0 :: s1 :: s2 :: s3 :: s4 :: s5 :: s6 :: s7 :: .pointer (some ⟨q8, 0, none⟩) :: s9 :: s10 :: s11 :: s12 :: s13 :: tl).toArray, []⟩ w) 278 ?_ tl htl
  intro u14 u15 u16 u17 u18 u19 u20 u21 u22 u23 u24 u25 u26 u27 u28 u29 u30 u31 u32 u33 u34 u35 u36 u37 u38 u39 u40 u41 u42 u43 u44 u45 u46 u47 u48 u49 u50 u51 u52 u53 u54 u55 u56 u57 u58 u59 u60 u61 u62 u63 u64 u65 u66 u67 u68 u69 u70 u71 u72 u73 u74 u75 u76 u77 u78 u79 u80 u81 u82 u83 u84 u85 u86 u87 u88 u89 u90 u91 u92 u93 u94 u95 u96 u97 u98 u99 u100 u101 u102 u103 u104 u105 u106 u107 u108 u109 u110 u111 u112 u113 u114 u115 u116 u117 u118 u119 u120 u121 u122 u123 u124 u125 u126 u127 u128 u129 u130 u131 u132 u133 u134 u135 u136 u137 u138 u139 u140 u141 u142 u143 u144 u145 u146 u147 u148 u149 u150 u151 u152 u153 u154 u155 u156 u157 u158 u159 u160 u161 u162 u163 u164 u165 u166 u167 u168 u169 u170 u171 u172 u173 u174 u175 u176 u177 u178 u179 u180 u181 u182 u183 u184 u185 u186 u187 u188 u189 u190 u191 u192 u193 u194 u195 u196 u197 u198 u199 u200 u201 u202 u203 u204 u205 u206 u207 u208 u209 u210 u211 u212 u213 u214 u215 u216 u217 u218 u219 u220 u221 u222 u223 u224 u225 u226 u227 u228 u229 u230 u231 u232 u233 u234 u235 u236 u237 u238 u239 u240 u241 u242 u243 u244 u245 u246 u247 u248 u249 u250 u251 u252 u253 u254 u255 u256 u257 u258 u259 u260 u261 u262 u263 u264 u265 u266 u267 u268 u269 u270 u271 u272 u273 u274 u275 u276 u277 u278 u279 u280 u281 u282 u283 u284 u285 u286 u287 u288 u289 u290 u291
  show Code.wp Try.prog _ Q ⟨List.toArray (s0 :: s1 :: s2 :: s3 :: s4 :: s5 :: s6 :: s7 :: .pointer (some ⟨q8, 0, none⟩) :: s9 :: s10 :: s11 :: s12 :: s13 :: u14 :: u15 :: u16 :: u17 :: u18 :: u19 :: u20 :: u21 :: u22 :: u23 :: u24 :: u25 :: u26 :: u27 :: u28 :: u29 :: u30 :: u31 :: u32 :: u33 :: u34 :: u35 :: u36 :: u37 :: u38 :: u39 :: u40 :: u41 :: u42 :: u43 :: u44 :: u45 :: u46 :: u47 :: u48 :: u49 :: u50 :: u51 :: u52 :: u53 :: u54 :: u55 :: u56 :: u57 :: u58 :: u59 :: u60 :: u61 :: u62 :: u63 :: u64 :: u65 :: u66 :: u67 :: u68 :: u69 :: u70 :: u71 :: u72 :: u73 :: u74 :: u75 :: u76 :: u77 :: u78 :: u79 :: u80 :: u81 :: u82 :: u83 :: u84 :: u85 :: u86 :: u87 :: u88 :: u89 :: u90 :: u91 :: u92 :: u93 :: u94 :: u95 :: u96 :: u97 :: u98 :: u99 :: u100 :: u101 :: u102 :: u103 :: u104 :: u105 :: u106 :: u107 :: u108 :: u109 :: u110 :: u111 :: u112 :: u113 :: u114 :: u115 :: u116 :: u117 :: u118 :: u119 :: u120 :: u121 :: u122 :: u123 :: u124 :: u125 :: u126 :: u127 :: u128 :: u129 :: u130 :: u131 :: u132 :: u133 :: u134 :: u135 :: u136 :: u137 :: u138 :: u139 :: u140 :: u141 :: u142 :: u143 :: u144 :: u145 :: u146 :: u147 :: u148 :: u149 :: u150 :: u151 :: u152 :: u153 :: u154 :: u155 :: u156 :: u157 :: u158 :: u159 :: u160 :: u161 :: u162 :: u163 :: u164 :: u165 :: u166 :: u167 :: u168 :: u169 :: u170 :: u171 :: u172 :: u173 :: u174 :: u175 :: u176 :: u177 :: u178 :: u179 :: u180 :: u181 :: u182 :: u183 :: u184 :: u185 :: u186 :: u187 :: u188 :: u189 :: u190 :: u191 :: u192 :: u193 :: u194 :: u195 :: u196 :: u197 :: u198 :: u199 :: u200 :: u201 :: u202 :: u203 :: u204 :: u205 :: u206 :: u207 :: u208 :: u209 :: u210 :: u211 :: u212 :: u213 :: u214 :: u215 :: u216 :: u217 :: u218 :: u219 :: u220 :: u221 :: u222 :: u223 :: u224 :: u225 :: u226 :: u227 :: u228 :: u229 :: u230 :: u231 :: u232 :: u233 :: u234 :: u235 :: u236 :: u237 :: u238 :: u239 :: u240 :: u241 :: u242 :: u243 :: u244 :: u245 :: u246 :: u247 :: u248 :: u249 :: u250 :: u251 :: u252 :: u253 :: u254 :: u255 :: u256 :: u257 :: u258 :: u259 :: u260 :: u261 :: u262 :: u263 :: u264 :: u265 :: u266 :: u267 :: u268 :: u269 :: u270 :: u271 :: u272 :: u273 :: u274 :: u275 :: u276 :: u277 :: u278 :: u279 :: u280 :: u281 :: u282 :: u283 :: u284 :: u285 :: u286 :: u287 :: u288 :: u289 :: u290 :: u291 :: []), []⟩ w
  by_cases c0 : what = 0
  · subst c0
    go_wp2_with fail
    exact H0.out (by first | rfl | trivial) _ rfl
  by_cases c1 : what = 1
  · subst c1
    go_wp2_with fail
    exact H1.out (by first | rfl | trivial) _ rfl
  by_cases c2 : what = 2
  · subst c2
    go_wp2_with fail
    exact H2.out (by first | rfl | trivial) _ rfl
  by_cases c3 : what = 3
  · subst c3
    go_wp2_with fail
    exact H3.out (by first | rfl | trivial) _ rfl
  by_cases c4 : what = 4
  · subst c4
    go_wp2_with fail
    exact H4.out (by first | rfl | trivial) _ rfl
  by_cases c5 : what = 5
  · subst c5
    go_wp2_with fail
    exact H5.out (by first | rfl | trivial) _ rfl
  by_cases c6 : what = 6
  · subst c6
    go_wp2_with fail
    exact H6.out (by first | rfl | trivial) _ rfl
  by_cases c7 : what = 7
  · subst c7
    go_wp2_with fail
    exact H7.out (by first | rfl | trivial) _ rfl
  have HN2 := Lib.hid (HN.out c0 c1 c2 c3 c4 c5 c6 c7)
  have d0 : (what == 0) = false := by simpa using c0
  have d1 : (what == 1) = false := by simpa using c1
  have d2 : (what == 2) = false := by simpa using c2
  have d3 : (what == 3) = false := by simpa using c3
  have d4 : (what == 4) = false := by simpa using c4
  have d5 : (what == 5) = false := by simpa using c5
  have d6 : (what == 6) = false := by simpa using c6
  have d7 : (what == 7) = false := by simpa using c7
  clear c0 c1 c2 c3 c4 c5 c6 c7
  go_wp2_with fail
  exact HN2.out _ rfl
end Go.Proofs.Ytpkpffnabcgcbaa
