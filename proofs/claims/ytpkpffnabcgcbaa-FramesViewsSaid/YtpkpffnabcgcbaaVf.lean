/-
  The walk of the law FramesViews.
-/
import Derived.Test.YtpkpffnabcgcbaaVe
import Derived.Test.YtpkpffnabcgcbaaVh
import Derived.Test.YtpkpffnabcgcbaaVi
import Derived.Test.YtpkpffnabcgcbaaVq
namespace Go.Proofs.Ytpkpffnabcgcbaa
open Go.RowKit

theorem one17 (l : List Value) (h : l.all (·.oneCell') = true) : l.toArray.all (·.oneCell') = true := by simpa using h
theorem range_blk {w w' : World} {g o : Nat} {cs : List Value} (h : w.rangeAt g o cs) (he : w'.heap[g]? = w.heap[g]?) : w'.rangeAt g o cs := fun j v hv => by
  rw [← h j v hv]
  unfold World.cell?
  rw [he]
theorem VW.view_at {w : World} {B q : Nat} {p : St} {v u : Value} {V : List (List En)} {l : List En} {yw : List Value} (h : VW w B q p v V l u yw) : ∃ D d, u = .slice D l.length d ∧ EnvsAt w D l := by
  obtain ⟨ve, vc, ys, cs, -, -, h3, -⟩ := h
  exact h3.at
theorem view_y {p : St} (g : Good p) : ∀ z ∈ viewV p, z.y.length ≤ 8796093022208 := fun z hz => by
  have h := viewN_mem (P := fun z => z.y.length ≤ 4096) (l := p.envs) (fun x hx => by
    obtain ⟨i, hi⟩ := List.mem_iff_getElem?.1 hx
    exact (g.en i x hi).2.2.2) _ _ z hz
  omega
theorem viewV_len {p : St} (g : Good p) : (viewV p).length ≤ 1000000000000 := by
  have h1 := viewA_len p.envs p.e
  have h2 := g.len
  have h3 := g.envs
  have h4 := g.e
  show (viewA p.envs p.e).length ≤ _
  omega
set_option maxHeartbeats 8000000 in
set_option maxRecDepth 100000 in
theorem law_views (s : St) (A : Option Addr) (c : Nat) (A1 : Option Addr) (c1 : Nat) (Al : Option Addr) (cl : Nat) (l : List Sp) (w : World)
    (hs : StIn w A c A1 c1 s) (hl : StepsAt w Al l) (hll : l.length ≤ 10000000000000) :
    Calls Try.prog 4 #[stV s A c A1 c1, .slice Al l.length cl] w fun e w' => e = .returned (.bool true) ∧ Below w.heap.size w w' := by
  obtain ⟨W, HW⟩ : ∃ X, Hid (X = w.alloc (.cells #[.slice A s.envs.length c, .int .i64 s.e, .slice A1 s.chs.length c1] 25)) := ⟨_, rfl⟩
  have hbW : Below w.heap.size w W := by rw [HW.out]; exact bAlloc w _
  obtain ⟨q2, hq2⟩ : ∃ q, Hid (q = w.heap.size) := ⟨_, rfl⟩
  have hk2 : Blk W q2 25 #[.slice A s.envs.length c, .int .i64 s.e, .slice A1 s.chs.length c1] := by rw [HW.out, hq2.out]; exact Blk.new w _ _
  have HB := Lib.hid hbW
  have HS := Lib.hid hs
  have HL := Lib.hid hl
  have HK := Lib.hid hk2
  obtain ⟨a0, a1, a2⟩ : W.cell? ⟨q2, 0, none⟩ = some (.slice A s.envs.length c) ∧ W.cell? ⟨q2, 1, none⟩ = some (.int .i64 s.e) ∧ W.cell? ⟨q2, 2, none⟩ = some (.slice A1 s.chs.length c1) := ⟨by simpa using hk2.cell 0, by simpa using hk2.cell 1, by simpa using hk2.cell 2⟩
  have al := hk2.lt
  clear hbW hs hl hk2
  go_enter Try.func4, Try.ntmps4
  go_upto_region 1 with fail
  rw [← HW.out, ← hq2.out]
  clear HW
  go_wp2_with fail
  refine (valid_any W (HS.out.at'.next HB.out) HS.out.envs HS.out.chs HS.out.y).mono ?_
  rintro e w1 ⟨hv, hb1⟩
  obtain ⟨b, rfl, hbg⟩ := hv.bool
  have HB1 := Lib.hid (bNext HB.out hb1)
  have HG := Lib.hid hbg
  have HK1 := Lib.hid (HK.out.next hb1)
  clear hv hb1 hbg a0 a1 a2 al HB HK
  cases b
  · go_wp2_with fail
    refine (awake_any w1).mono ?_
    rintro e w2 ⟨rfl, hb2⟩
    have HB2 := Lib.hid (bNext HB1.out hb2)
    clear hb2
    go_wp2_with fail
    go_ret
    exact ⟨rfl, HB2.out⟩
  have HGD := Lib.hid (HG.out.1 rfl)
  clear HG
  obtain ⟨a0, a1, a2⟩ : w1.cell? ⟨q2, 0, none⟩ = some (.slice A s.envs.length c) ∧ w1.cell? ⟨q2, 1, none⟩ = some (.int .i64 s.e) ∧ w1.cell? ⟨q2, 2, none⟩ = some (.slice A1 s.chs.length c1) := ⟨by simpa using HK1.out.cell 0, by simpa using HK1.out.cell 1, by simpa using HK1.out.cell 2⟩
  have al := HK1.out.lt
  go_wp2_with fail
  refine (clone_any s w1 (HS.out.at'.next HB1.out) HGD.out.envs HGD.out.chs (fun z hz => Nat.le_trans (HGD.out.sized.y z hz) (by omega)) HS.out.ch).mono ?_
  rintro e w2 ⟨⟨ve, vc, ys, cs, rfl, hsv⟩, hb2⟩
  obtain ⟨D, d, rfl, -⟩ := own_form hsv.envs
  obtain ⟨D', d', rfl, -⟩ := own_form hsv.chs
  have HV := Lib.hid hsv
  have HB2 := Lib.hid (bNext HB1.out hb2)
  have hz12 := hb2.size
  have HK2 := Lib.hid (HK1.out.next hb2)
  obtain ⟨B, hB⟩ : ∃ B, Hid (B = w1.heap.size) := ⟨_, rfl⟩
  have hq2B : q2 < B := by rw [hB.out]; exact HK1.out.lt
  have hwB : w.heap.size ≤ B := by rw [hB.out]; exact HB1.out.size
  clear hsv a0 a1 a2 al hb2 HB1 HK1
  go_upto_region 4 with fail
  obtain ⟨X5, HX⟩ : ∃ X, Hid (X = w2.alloc (.cells #[.slice D s.envs.length d, .int .i64 s.e, .slice D' s.chs.length d'] 25)) := ⟨_, rfl⟩
  have hbX : Below w2.heap.size w2 X5 := by rw [HX.out]; exact bAlloc _ _
  obtain ⟨q5, hq5⟩ : ∃ q, Hid (q = w2.heap.size) := ⟨_, rfl⟩
  have hkX : Blk X5 q5 25 #[.slice D s.envs.length d, .int .i64 s.e, .slice D' s.chs.length d'] := by rw [HX.out, hq5.out]; exact Blk.new _ _ _
  rw [← HX.out, ← hq5.out]
  have hvar := HV.out.var hbX hkX (by rw [hq5.out]; exact hz12)
  rw [← hB.out] at hvar
  have HSt := Lib.hid (show VSt X5 B q5 s (.slice none 0 0) [] by
    obtain ⟨ve, vc, ys, cs, h⟩ := hvar
    exact ⟨ve, vc, ys, cs, h, Push.nil _ _⟩)
  have HBX := Lib.hid (bNext HB2.out hbX)
  have HKX := Lib.hid (HK2.out.next hbX)
  clear HX hkX hbX HB2 HK2 HV hvar hq5 hz12
  go_wp2_with fail
  refine wp_loop_ghost_k (fun m a wr => ∃ (k : Nat) (p : St) (V : List (List En)) (v4 v6 : Value) (tl : List Value), a = ⟨(stV s A c A1 c1 :: .slice Al l.length cl :: .pointer (some ⟨q2, 0, none⟩) :: undef :: v4 :: .pointer (some ⟨q5, 0, none⟩) :: v6 :: .int .i64 (k : Int) :: tl).toArray, []⟩ ∧ tl.length = 284 ∧ m = 60 - k ∧ k ≤ 60 ∧ V.length ≤ k ∧ p.chs.length ≤ s.chs.length + V.length ∧ Hid (Below w.heap.size w wr) ∧ Hid (Blk wr q2 25 #[.slice A s.envs.length c, .int .i64 s.e, .slice A1 s.chs.length c1]) ∧ Hid (Good p) ∧ Hid (PInv p V) ∧ Hid (VSt wr B q5 p v6 V) ∧ Hid (∀ g, v6.ownBlock = some g → w.heap.size ≤ g)) 60 ?st fun m a wr hrel J Kr hJ hKr => ?rd
  case st => exact ⟨0, s, [], _, _, _, rfl, rfl, rfl, by omega, Nat.le_refl _, Nat.le_refl _, HBX, HKX, HGD, Lib.hid (PInv.nil s), HSt, Lib.hid (fun g h => by cases h)⟩
  case rd =>
    clear HBX HKX HSt
    obtain ⟨k, p, V, v4, v6, tl, rfl, htl, rfl, hk, hVk, hpV, HI, HKq, HG, HP, HSt, HV6⟩ := hrel
    have HJ := Lib.hid hJ
    clear hJ
    revert htl
    revert tl
    refine fun tl htl => all_of (P := fun tl => Code.wp Try.prog _ _ ⟨(stV s A c A1 c1 :: .slice Al l.length cl :: .pointer (some ⟨q2, 0, none⟩) :: undef :: v4 :: .pointer (some ⟨q5, 0, none⟩) :: v6 :: .int .i64 (k : Int) :: tl).toArray, []⟩ wr) 284 ?_ tl htl
    intro u8 u9 u10 u11 u12 u13 u14 u15 u16 u17 u18 u19 u20 u21 u22 u23 u24 u25 u26 u27 u28 u29 u30 u31 u32 u33 u34 u35 u36 u37 u38 u39 u40 u41 u42 u43 u44 u45 u46 u47 u48 u49 u50 u51 u52 u53 u54 u55 u56 u57 u58 u59 u60 u61 u62 u63 u64 u65 u66 u67 u68 u69 u70 u71 u72 u73 u74 u75 u76 u77 u78 u79 u80 u81 u82 u83 u84 u85 u86 u87 u88 u89 u90 u91 u92 u93 u94 u95 u96 u97 u98 u99 u100 u101 u102 u103 u104 u105 u106 u107 u108 u109 u110 u111 u112 u113 u114 u115 u116 u117 u118 u119 u120 u121 u122 u123 u124 u125 u126 u127 u128 u129 u130 u131 u132 u133 u134 u135 u136 u137 u138 u139 u140 u141 u142 u143 u144 u145 u146 u147 u148 u149 u150 u151 u152 u153 u154 u155 u156 u157 u158 u159 u160 u161 u162 u163 u164 u165 u166 u167 u168 u169 u170 u171 u172 u173 u174 u175 u176 u177 u178 u179 u180 u181 u182 u183 u184 u185 u186 u187 u188 u189 u190 u191 u192 u193 u194 u195 u196 u197 u198 u199 u200 u201 u202 u203 u204 u205 u206 u207 u208 u209 u210 u211 u212 u213 u214 u215 u216 u217 u218 u219 u220 u221 u222 u223 u224 u225 u226 u227 u228 u229 u230 u231 u232 u233 u234 u235 u236 u237 u238 u239 u240 u241 u242 u243 u244 u245 u246 u247 u248 u249 u250 u251 u252 u253 u254 u255 u256 u257 u258 u259 u260 u261 u262 u263 u264 u265 u266 u267 u268 u269 u270 u271 u272 u273 u274 u275 u276 u277 u278 u279 u280 u281 u282 u283 u284 u285 u286 u287 u288 u289 u290 u291
    show Code.wp Try.prog _ _ ⟨List.toArray (stV s A c A1 c1 :: .slice Al l.length cl :: .pointer (some ⟨q2, 0, none⟩) :: undef :: v4 :: .pointer (some ⟨q5, 0, none⟩) :: v6 :: .int .i64 (k : Int) :: u8 :: u9 :: u10 :: u11 :: u12 :: u13 :: u14 :: u15 :: u16 :: u17 :: u18 :: u19 :: u20 :: u21 :: u22 :: u23 :: u24 :: u25 :: u26 :: u27 :: u28 :: u29 :: u30 :: u31 :: u32 :: u33 :: u34 :: u35 :: u36 :: u37 :: u38 :: u39 :: u40 :: u41 :: u42 :: u43 :: u44 :: u45 :: u46 :: u47 :: u48 :: u49 :: u50 :: u51 :: u52 :: u53 :: u54 :: u55 :: u56 :: u57 :: u58 :: u59 :: u60 :: u61 :: u62 :: u63 :: u64 :: u65 :: u66 :: u67 :: u68 :: u69 :: u70 :: u71 :: u72 :: u73 :: u74 :: u75 :: u76 :: u77 :: u78 :: u79 :: u80 :: u81 :: u82 :: u83 :: u84 :: u85 :: u86 :: u87 :: u88 :: u89 :: u90 :: u91 :: u92 :: u93 :: u94 :: u95 :: u96 :: u97 :: u98 :: u99 :: u100 :: u101 :: u102 :: u103 :: u104 :: u105 :: u106 :: u107 :: u108 :: u109 :: u110 :: u111 :: u112 :: u113 :: u114 :: u115 :: u116 :: u117 :: u118 :: u119 :: u120 :: u121 :: u122 :: u123 :: u124 :: u125 :: u126 :: u127 :: u128 :: u129 :: u130 :: u131 :: u132 :: u133 :: u134 :: u135 :: u136 :: u137 :: u138 :: u139 :: u140 :: u141 :: u142 :: u143 :: u144 :: u145 :: u146 :: u147 :: u148 :: u149 :: u150 :: u151 :: u152 :: u153 :: u154 :: u155 :: u156 :: u157 :: u158 :: u159 :: u160 :: u161 :: u162 :: u163 :: u164 :: u165 :: u166 :: u167 :: u168 :: u169 :: u170 :: u171 :: u172 :: u173 :: u174 :: u175 :: u176 :: u177 :: u178 :: u179 :: u180 :: u181 :: u182 :: u183 :: u184 :: u185 :: u186 :: u187 :: u188 :: u189 :: u190 :: u191 :: u192 :: u193 :: u194 :: u195 :: u196 :: u197 :: u198 :: u199 :: u200 :: u201 :: u202 :: u203 :: u204 :: u205 :: u206 :: u207 :: u208 :: u209 :: u210 :: u211 :: u212 :: u213 :: u214 :: u215 :: u216 :: u217 :: u218 :: u219 :: u220 :: u221 :: u222 :: u223 :: u224 :: u225 :: u226 :: u227 :: u228 :: u229 :: u230 :: u231 :: u232 :: u233 :: u234 :: u235 :: u236 :: u237 :: u238 :: u239 :: u240 :: u241 :: u242 :: u243 :: u244 :: u245 :: u246 :: u247 :: u248 :: u249 :: u250 :: u251 :: u252 :: u253 :: u254 :: u255 :: u256 :: u257 :: u258 :: u259 :: u260 :: u261 :: u262 :: u263 :: u264 :: u265 :: u266 :: u267 :: u268 :: u269 :: u270 :: u271 :: u272 :: u273 :: u274 :: u275 :: u276 :: u277 :: u278 :: u279 :: u280 :: u281 :: u282 :: u283 :: u284 :: u285 :: u286 :: u287 :: u288 :: u289 :: u290 :: u291 :: []), []⟩ wr
    go_upto_region 6 with fail
    go_cut [28] from 21 to 290 (fun s28 wx => s28 = .bool (decide (k < l.length ∧ k < 60)) ∧ wx = wr)
    case first =>
      by_cases h1 : k < l.length
      · by_cases h2 : k < 60
        · have h3 : decide (k < l.length ∧ k < 60) = true := decide_eq_true ⟨h1, h2⟩
          go_wp2_with fail
          go_meet
          exact ⟨by rw [h3]; first | done | (simp; omega) | simp, rfl⟩
        · have h3 : decide (k < l.length ∧ k < 60) = false := decide_eq_false fun h => h2 h.2
          go_wp2_with fail
          go_meet
          exact ⟨by rw [h3]; first | done | (simp; omega) | simp, rfl⟩
      · have h3 : decide (k < l.length ∧ k < 60) = false := decide_eq_false fun h => h1 h.1
        go_wp2_with fail
        go_meet
        exact ⟨by rw [h3]; first | done | (simp; omega) | simp, rfl⟩
    case rest =>
      obtain ⟨rfl, rfl⟩ := hcut
      by_cases hc : k < l.length ∧ k < 60
      · rw [decide_eq_true hc]
        obtain ⟨hlt, hlt6⟩ := hc
        obtain ⟨y, hy⟩ : ∃ y, l[k]? = some y := ⟨_, List.getElem?_eq_getElem hlt⟩
        obtain ⟨b, off, rfl, hb, hat⟩ := HL.out (by omega)
        obtain ⟨Ac, ac, Bc, bc, hz, hcr⟩ := hat k y hy
        obtain ⟨what, yn, yid, ypc, yc, ych⟩ := y
        have HZ := Lib.hid (show wc.rangeAt b (off + k * 17) [.int .i64 what, .int .i64 yn, .int .i64 yid, .int .i64 ypc, .int .i64 yc.tag, .int .i64 yc.n, .int .i64 ych.kind, .slice Ac ych.args.length ac, .int .i64 ych.env, .int .i64 ych.id, .int .i64 ych.pc, .int .i64 ych.cut, .int .i64 ych.mark, .int .i64 ych.top, .int .i64 ych.envs, .slice Bc ych.alts.length bc, .int .i64 ych.data] from fun j v hv => (HI.out.cell (p := ⟨b, off + k * 17 + j, none⟩) hb).trans (hz j v hv))
        have HCR := Lib.hid (hcr.next HI.out)
        have hbl : b < wc.heap.size := Nat.lt_of_lt_of_le hb HI.out.size
        clear hz hcr hat hy
        have hbx := box_new wc 40 [.int .i64 0, .int .i64 0, .int .i64 0, .int .i64 0, .int .i64 0, .int .i64 0, .int .i64 0, .slice none 0 0, .int .i64 0, .int .i64 0, .int .i64 0, .int .i64 0, .int .i64 0, .int .i64 0, .int .i64 0, .slice none 0 0, .int .i64 0] [.int .i64 what, .int .i64 yn, .int .i64 yid, .int .i64 ypc, .int .i64 yc.tag, .int .i64 yc.n, .int .i64 ych.kind, .slice Ac ych.args.length ac, .int .i64 ych.env, .int .i64 ych.id, .int .i64 ych.pc, .int .i64 ych.cut, .int .i64 ych.mark, .int .i64 ych.top, .int .i64 ych.envs, .slice Bc ych.alts.length bc, .int .i64 ych.data] rfl
        obtain ⟨W8, HW8⟩ : ∃ X, Hid (X = (wc.alloc (.cells #[.int .i64 0, .int .i64 0, .int .i64 0, .int .i64 0, .int .i64 0, .int .i64 0, .int .i64 0, .slice none 0 0, .int .i64 0, .int .i64 0, .int .i64 0, .int .i64 0, .int .i64 0, .int .i64 0, .int .i64 0, .slice none 0 0, .int .i64 0] 40)).setCells wc.heap.size 0 [.int .i64 what, .int .i64 yn, .int .i64 yid, .int .i64 ypc, .int .i64 yc.tag, .int .i64 yc.n, .int .i64 ych.kind, .slice Ac ych.args.length ac, .int .i64 ych.env, .int .i64 ych.id, .int .i64 ych.pc, .int .i64 ych.cut, .int .i64 ych.mark, .int .i64 ych.top, .int .i64 ych.envs, .slice Bc ych.alts.length bc, .int .i64 ych.data]) := ⟨_, rfl⟩
        obtain ⟨q8, hq8⟩ : ∃ q, Hid (q = wc.heap.size) := ⟨_, rfl⟩
        obtain ⟨hr8, hb8, hz8, ht8⟩ := hbx
        have hone : (#[.int .i64 what, .int .i64 yn, .int .i64 yid, .int .i64 ypc, .int .i64 yc.tag, .int .i64 yc.n, .int .i64 ych.kind, .slice Ac ych.args.length ac, .int .i64 ych.env, .int .i64 ych.id, .int .i64 ych.pc, .int .i64 ych.cut, .int .i64 ych.mark, .int .i64 ych.top, .int .i64 ych.envs, .slice Bc ych.alts.length bc, .int .i64 ych.data] : Array Value).all (·.oneCell') = true := by simp [Value.oneCell']
        have HT8 := Lib.hid ht8
        have HR8 := Lib.hid hr8
        clear ht8 hr8
        go_upto_region 9 with (first | (refine wpList_load_mid rfl 40 (.tmp 33) rfl b (off + k * 17) rfl _ _ HZ.out Try.underlying40 rfl (by kernel_rfl) ?_) | (refine wpList_store_mid rfl 40 (.tmp 8) (.tmp 34) rfl wc.heap.size 0 #[.int .i64 what, .int .i64 yn, .int .i64 yid, .int .i64 ypc, .int .i64 yc.tag, .int .i64 yc.n, .int .i64 ych.kind, .slice Ac ych.args.length ac, .int .i64 ych.env, .int .i64 ych.id, .int .i64 ych.pc, .int .i64 ych.cut, .int .i64 ych.mark, .int .i64 ych.top, .int .i64 ych.envs, .slice Bc ych.alts.length bc, .int .i64 ych.data] rfl rfl HT8.out (by kernel_rfl) hone ?_))
        rw [← HW8.out, ← hq8.out]
        have hb8' : Below wc.heap.size wc W8 := by rw [HW8.out]; exact hb8
        have HR8' : Hid (W8.rangeAt q8 0 [.int .i64 what, .int .i64 yn, .int .i64 yid, .int .i64 ypc, .int .i64 yc.tag, .int .i64 yc.n, .int .i64 ych.kind, .slice Ac ych.args.length ac, .int .i64 ych.env, .int .i64 ych.id, .int .i64 ych.pc, .int .i64 ych.cut, .int .i64 ych.mark, .int .i64 ych.top, .int .i64 ych.envs, .slice Bc ych.alts.length bc, .int .i64 ych.data]) := Lib.hid (by rw [HW8.out, hq8.out]; exact HR8.out)
        have HQ8 : Hid (∃ b, Blk W8 q8 40 b) := Lib.hid (by rw [HW8.out, hq8.out]; exact setCells_ty _ _ _ _ (Blk.new wc 40 _))
        have hq8W : q8 < W8.heap.size := by rw [HW8.out, hz8, hq8.out]; exact Nat.lt_succ_self _
        have HI8 := Lib.hid (bNext HI.out hb8')
        have HK8 := Lib.hid (HKq.out.next hb8')
        have HS8 := Lib.hid (HSt.out.next hb8')
        have HC8 := Lib.hid (HCR.out.next hb8')
        clear hone HR8 HT8 hb8 hz8 HI HKq HSt HCR hb8' HZ hbl HW8
        obtain ⟨E1, e1, E2, e2, hkb, hat⟩ := HS8.out.own.at
        have t0 := hkb.cell 0
        have t1 := hkb.cell 1
        have t2 := hkb.cell 2
        have tl := hkb.lt
        simp at t0 t1 t2
        have HKB := Lib.hid hkb
        have HAT := Lib.hid hat
        clear hkb hat
        go_wp2_with fail
        refine (view_own W8 HS8.out HG.out HAT.out).mono ?_
        rintro e w9 ⟨⟨u, yw, rfl, hrow, hvw⟩, hb9⟩
        obtain ⟨Au, cu, rfl, -⟩ := own_form hrow.row
        have HW9 := Lib.hid hvw
        have HSEP := Lib.hid (fun g hg => hrow.lt g hg)
        have hz8w := HI8.out.size
        have HZ9 := Lib.hid hb9.size
        have HI9 := Lib.hid (bNext HI8.out hb9)
        have HK9 := Lib.hid (HK8.out.next hb9)
        have HC9 := Lib.hid (HC8.out.next hb9)
        have HR9 := Lib.hid (range_next HR8'.out hb9 hq8W)
        have HQ9 : Hid (∃ b, Blk w9 q8 40 b) := Lib.hid (by obtain ⟨b8, hb8⟩ := HQ8.out; exact ⟨b8, hb8.next hb9⟩)
        have hq89 : q8 < w9.heap.size := Nat.lt_of_lt_of_le hq8W hb9.size
        have hk9 := HKB.out.next hb9
        have s2 := hk9.cell 2
        have sl := hk9.lt
        simp at s2
        have HLN := Lib.hid (viewA_len p.envs p.e)
        clear t0 t1 t2 tl hrow hvw hb9 HS8 HI8 HK8 HC8 HR8' HAT HKB hk9 hq8W
        go_wp2_with (refine wpList_load_mid rfl 40 (.tmp 8) rfl q8 0 rfl _ _ HR9.out Try.underlying40 rfl (by kernel_rfl) ?_)
        refine (do_view (x := ych) (cl := yc) (Aa := Ac) (Ab := Bc) (ca := ac) (cb := bc) what yn yid ypc w9 HW9.out HG.out.sized HC9.out).mono ?_
        rintro e w11 ⟨C1, n1, cc1, C2, n2, cc2, rfl, hvw, hb11, hty⟩
        have HR11q := Lib.hid (range_blk HR9.out (by
          obtain ⟨b8, hb8⟩ := HQ9.out
          exact (hty q8 b8 hb8).trans hb8.symm))
        clear hty
        obtain ⟨p', hp'⟩ : ∃ p', Hid (p' = (doV p ⟨what, yn, yid, ypc, yc, ych⟩).1) := ⟨_, rfl⟩
        obtain ⟨o, ho⟩ : ∃ o, Hid (o = (doV p ⟨what, yn, yid, ypc, yc, ych⟩).2) := ⟨_, rfl⟩
        rw [← hp'.out] at hvw
        rw [← ho.out]
        have hg' : Good p' := by rw [hp'.out]; exact good_do HG.out
        have HG' := Lib.hid hg'
        have HW11 := Lib.hid hvw
        have HI11 := Lib.hid (HI9.out.trans (hb11.mono hwB))
        have HZ11 := Lib.hid hb11.size
        have HK11 := Lib.hid (HK9.out.below hb11 hq2B)
        have hcs11 := hb11.size
        have HR9' := Lib.hid HR9.out
        clear hg' hvw HI9 HK9 HC9 s2 sl hb11 HW9
        obtain ⟨hr11, hb11, hz11, ht11⟩ := box_new w11 42 [.int .i64 0, .int .i64 0, .int .i64 0, .int .i64 0, .int .i64 0, .slice none 0 0, .int .i64 0, .int .i64 0, .int .i64 0, .int .i64 0, .int .i64 0, .int .i64 0, .int .i64 0, .slice none 0 0, .int .i64 0, .int .i64 0] [.int .i64 o.id, .int .i64 o.pc, .int .i64 o.c.tag, .int .i64 o.c.n, .int .i64 o.ch.kind, .slice C1 n1 cc1, .int .i64 o.ch.env, .int .i64 o.ch.id, .int .i64 o.ch.pc, .int .i64 o.ch.cut, .int .i64 o.ch.mark, .int .i64 o.ch.top, .int .i64 o.ch.envs, .slice C2 n2 cc2, .int .i64 o.ch.data, .int .i64 o.e] rfl
        obtain ⟨W11, HW11x⟩ : ∃ X, Hid (X = (w11.alloc (.cells #[.int .i64 0, .int .i64 0, .int .i64 0, .int .i64 0, .int .i64 0, .slice none 0 0, .int .i64 0, .int .i64 0, .int .i64 0, .int .i64 0, .int .i64 0, .int .i64 0, .int .i64 0, .slice none 0 0, .int .i64 0, .int .i64 0] 42)).setCells w11.heap.size 0 [.int .i64 o.id, .int .i64 o.pc, .int .i64 o.c.tag, .int .i64 o.c.n, .int .i64 o.ch.kind, .slice C1 n1 cc1, .int .i64 o.ch.env, .int .i64 o.ch.id, .int .i64 o.ch.pc, .int .i64 o.ch.cut, .int .i64 o.ch.mark, .int .i64 o.ch.top, .int .i64 o.ch.envs, .slice C2 n2 cc2, .int .i64 o.ch.data, .int .i64 o.e]) := ⟨_, rfl⟩
        obtain ⟨q11, hq11⟩ : ∃ q, Hid (q = w11.heap.size) := ⟨_, rfl⟩
        have hone : (#[.int .i64 o.id, .int .i64 o.pc, .int .i64 o.c.tag, .int .i64 o.c.n, .int .i64 o.ch.kind, .slice C1 n1 cc1, .int .i64 o.ch.env, .int .i64 o.ch.id, .int .i64 o.ch.pc, .int .i64 o.ch.cut, .int .i64 o.ch.mark, .int .i64 o.ch.top, .int .i64 o.ch.envs, .slice C2 n2 cc2, .int .i64 o.ch.data, .int .i64 o.e] : Array Value).all (·.oneCell') = true := by simp [Value.oneCell']
        have HT11 := Lib.hid ht11
        have HR11x := Lib.hid hr11
        clear ht11 hr11
        go_upto_region 12 with (refine wpList_store_mid rfl 42 (.tmp 11) (.tmp 41) rfl w11.heap.size 0 #[.int .i64 o.id, .int .i64 o.pc, .int .i64 o.c.tag, .int .i64 o.c.n, .int .i64 o.ch.kind, .slice C1 n1 cc1, .int .i64 o.ch.env, .int .i64 o.ch.id, .int .i64 o.ch.pc, .int .i64 o.ch.cut, .int .i64 o.ch.mark, .int .i64 o.ch.top, .int .i64 o.ch.envs, .slice C2 n2 cc2, .int .i64 o.ch.data, .int .i64 o.e] rfl rfl HT11.out (by kernel_rfl) hone ?_)
        rw [← HW11x.out, ← hq11.out]
        have hb11' : Below w11.heap.size w11 W11 := by rw [HW11x.out]; exact hb11
        have HR11 : Hid (W11.rangeAt q11 0 [.int .i64 o.id, .int .i64 o.pc, .int .i64 o.c.tag, .int .i64 o.c.n, .int .i64 o.ch.kind, .slice C1 n1 cc1, .int .i64 o.ch.env, .int .i64 o.ch.id, .int .i64 o.ch.pc, .int .i64 o.ch.cut, .int .i64 o.ch.mark, .int .i64 o.ch.top, .int .i64 o.ch.envs, .slice C2 n2 cc2, .int .i64 o.ch.data, .int .i64 o.e]) := Lib.hid (by rw [HW11x.out, hq11.out]; exact HR11x.out)
        have HQ11q := Lib.hid (range_next HR11q.out hb11' (Nat.lt_of_lt_of_le hq89 HZ11.out))
        have hq8W11 : q8 < W11.heap.size := Nat.lt_of_lt_of_le (Nat.lt_of_lt_of_le hq89 HZ11.out) hb11'.size
        have HZW := Lib.hid hb11'.size
        have hq11W : q11 < W11.heap.size := by rw [HW11x.out, hz11, hq11.out]; exact Nat.lt_succ_self _
        have HI12 := Lib.hid (bNext HI11.out hb11')
        have HK12 := Lib.hid (HK11.out.next hb11')
        have HW12 := Lib.hid (HW11.out.next hb11')
        clear hone HR11x HT11 hb11 hz11 HI11 HK11 HW11 hb11' HW11x
        obtain ⟨E1, e1, E2, e2, hkb, hat⟩ := HW12.out.st.own.at
        have t0 := hkb.cell 0
        have t1 := hkb.cell 1
        have t2 := hkb.cell 2
        have tl := hkb.lt
        simp at t0 t1 t2
        have HKB := Lib.hid hkb
        have HAT := Lib.hid hat
        clear hkb hat
        go_wp2_with fail
        refine (view_any p' W11 HAT.out HG'.out).mono ?_
        rintro e w12 ⟨⟨un, yn', rfl, hrow⟩, hb12⟩
        obtain ⟨An, cn, rfl, -⟩ := own_form hrow.row
        have HNOW := Lib.hid hrow
        have HARG := Lib.hid (range_next HQ11q.out hb12 hq8W11)
        have hq812 : q8 < w12.heap.size := Nat.lt_of_lt_of_le hq8W11 hb12.size
        have hNW := hrow.lt
        have HW13 := Lib.hid (HW12.out.next hb12)
        have HI13 := Lib.hid (bNext HI12.out hb12)
        have HK13 := Lib.hid (HK12.out.next hb12)
        have HR13 := Lib.hid (range_next HR11.out hb12 hq11W)
        have hq11l : q11 < w12.heap.size := Nat.lt_of_lt_of_le hq11W hb12.size
        have k9 := HKB.out.next hb12
        have s0 := k9.cell 0
        have s2 := k9.cell 2
        have sl := k9.lt
        simp at s0 s2
        have v15 : w12.cell? ⟨q11, 15, none⟩ = some (.int .i64 o.e) := by simpa using HR13.out 15 _ rfl
        clear t0 t1 t2 tl hrow hb12 HW12 HI12 HK12 HR11 HAT HKB k9 hNW
        by_cases he : o.e = 0
        · have heb : (o.e != 0) = false := by simpa using he
          have E : Ent w w12 q2 q5 q8 q11 B W11.heap.size k s.chs.length #[.slice A s.envs.length c, .int .i64 s.e, .slice A1 s.chs.length c1] p p' ⟨what, yn, yid, ypc, yc, ych⟩ o (.slice Ac ych.args.length ac) (.slice Bc ych.alts.length bc) (.slice C1 n1 cc1) (.slice C2 n2 cc2) Au cu yw An cn yn' v6 V := { hp := hp'.out, ho := ho.out, he := he, g := HG.out, inv := HP.out, len := hVk, k60 := hlt6, chs := hpV, c0le := by have := HGD.out.chs; omega, below := HI13.out, k2 := HK13.out, k3 := ⟨A1, c1, rfl⟩, vw := HW13.out, now := HNOW.out, sep := fun g hg => by have h9 := HSEP.out g hg; have := HZ9.out; have := HZ11.out; have := HZW.out; omega, v6b := HV6.out, arg := HARG.out, out := HR13.out, q8w := hq812, q11w := hq11l }
          have HE := Lib.hid E
          clear E
          go_upto_region 16 with fail
          rename_i K1 hK1 e1x e2x e3x e4x K16 hK16
          refine region16 K16 _ _ rfl fun tl' hl => hK16 _ _ (rest_any HE.out _ (fun _ _ d _ _ h => by cases d <;> exact h) tl' hl fun v6' s10' s13' tl2 V' w' hl2 h1 h2 h3 h4 h5 h6 h7 => hK1 _ _ (region7 hlt6 Kr _ tl2 hl2 fun tl3 hl3 => hKr _ _ ?_))
          exact Handed.intro (60 - (k + 1)) (by omega) (HJ.out _ _ _ ⟨k + 1, p', V', _, v6', _, rfl, by simp [hl3], rfl, by omega, h3, h4, Lib.hid h5, Lib.hid h6, HG', Lib.hid h2, Lib.hid h1, Lib.hid h7⟩)
        have heb : (o.e != 0) = true := by simpa using he
        have hpe : p' = p := by rw [hp'.out]; exact do_err (by rw [← ho.out]; exact he)
        have HPE := Lib.hid hpe
        clear hpe
        obtain ⟨Dw, dw, ew, hEW⟩ := HW13.out.view_at
        injection ew with ew1 _ ew2
        subst ew1 ew2
        obtain ⟨Dn, dn, en, hEN⟩ := HNOW.out.at
        injection en with en1 _ en2
        subst en1 en2
        rw [HPE.out] at HNOW hEN HW13 HG' ⊢
        rw [show p'.chs.length = p.chs.length by rw [HPE.out]] at s2
        have HEW := Lib.hid hEW
        have HEN := Lib.hid hEN
        have hyl : ∀ z ∈ viewV p, z.y.length ≤ 8796093022208 := view_y HG.out
        have hvl := viewV_len HG.out
        clear hEW hEN
        go_wp2_with fail
        refine (equal_any (viewV p) w12 HEW.out HEN.out hvl hyl).mono ?_
        rintro e w13 ⟨rfl, hb13⟩
        have HWF := Lib.hid (HW13.out.st.next hb13)
        have HIF := Lib.hid (bNext HI13.out hb13)
        have HKF := Lib.hid (HK13.out.next hb13)
        have s2' := (hb13.cell (p := ⟨q5, _, none⟩) sl).trans s2
        have sl' : q5 < w13.heap.size := Nat.lt_of_lt_of_le sl hb13.size
        clear hb13 s0 s2 sl
        go_wp2_with fail
        exact Handed.intro (60 - (k + 1)) (by omega) (HJ.out _ _ _ ⟨k + 1, p, V, _, _, _, by rw [show ((k + 1 : Nat) : Int) = (k : Int) + 1 by omega], rfl, rfl, by omega, by omega, hpV, HIF, HKF, HG, HP, HWF, HV6⟩)
      · rw [decide_eq_false hc]
        clear hc
        go_wp2_with fail
        refine (awake_any wc).mono ?_
        rintro e w4 ⟨rfl, hb4⟩
        have HB4 := Lib.hid (bNext HI.out hb4)
        clear hb4
        go_wp2_with fail
        go_ret
        exact ⟨rfl, HB4.out⟩
end Go.Proofs.Ytpkpffnabcgcbaa
