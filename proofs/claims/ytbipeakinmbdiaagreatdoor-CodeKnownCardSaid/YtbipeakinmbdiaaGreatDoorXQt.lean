/-
  Walk (part): what comes behind CodeKnown's loop.
-/
import Derived.Test.YtbipeakinmbdiaaGreatDoorXQl
import Derived.Test.YtbipeakinmbdiaaGreatDoorKv
namespace Go.Proofs.YtbipeakinmbdiaaGreatDoor
open Go.RowKit

set_option maxRecDepth 100000 in
set_option maxHeartbeats 8000000 in
theorem known_tail {s0 s1 s2 s3 s4 s5 s6 s7 s8 s9 s10 s11 s12 s13 s14 s15 s16 s17 s18 s19 s20 s21 s22 s23 s24 s25 s26 s27 s28 s29 s30 s31 s32 s33 s34 s35 s36 s37 s38 s39 s40 s41 s42 s43 s44 s45 s46 s47 s48 s49 s50 s51 s52 s53 s54 s55 s56 s57 s58 s59 s60 s61 s62 s63 s64 s65 s66 s67 s68 s69 s70 s71 s72 s73 s74 s75 s76 s77 s78 s79 s80 s81 s82 s83 s84 s85 s86 s87 s88 s89 s90 s91 s92 s93 s94 s95 s96 s97 s98 s99 s100 s101 s102 s103 s104 s105 s106 s107 s108 s109 s110 s111 s112 s113 s114 s115 s116 s117 s118 s119 s120 s121 s122 s123 s124 s125 s126 s127 s128 s129 s130 s131 s132 s133 s134 s135 s136 s137 s138 s139 s140 s141 s142 s143 s144 s145 s146 s147 s148 s149 s150 s151 s152 s153 s154 s155 s156 s157 s158 s159 s160 s161 s162 s163 s164 s165 s166 s167 s168 s169 s170 s171 s172 s173 s174 s175 s176 s177 s178 s179 s180 s181 s182 s183 s184 s185 s186 s187 s188 s189 s190 s191 s192 s193 s194 s195 s196 s197 s198 s199 s200 s201 s202 s203 s204 s205 s206 s207 s208 s209 s210 s211 s212 s213 s214 : Value} {w0 w : World} (HB : Hid (Below w0.heap.size w0 w)) (HE : Hid (Env w0)) :
    Code.wp Tryz.prog (kcutAt (kcodeOf Tryz.f4) [true, true, true, true, true, true, true, true, true, true, true, true, true, true, true, true, true, true, true, true, true, true, true, true]) (bodyPost Tryz.prog Tryz.f4 fun e w' => e = .returned (.bool true) ∧ Below w0.heap.size w0 w') ⟨#[s0, s1, s2, s3, s4, s5, s6, s7, s8, s9, s10, s11, s12, s13, s14, s15, s16, s17, s18, s19, s20, s21, s22, s23, s24, s25, s26, s27, s28, s29, s30, s31, s32, s33, s34, s35, s36, s37, s38, s39, s40, s41, s42, s43, s44, s45, s46, s47, s48, s49, s50, s51, s52, s53, s54, s55, s56, s57, s58, s59, s60, s61, s62, s63, s64, s65, s66, s67, s68, s69, s70, s71, s72, s73, s74, s75, s76, s77, s78, s79, s80, s81, s82, s83, s84, s85, s86, s87, s88, s89, s90, s91, s92, s93, s94, s95, s96, s97, s98, s99, s100, s101, s102, s103, s104, s105, s106, s107, s108, s109, s110, s111, s112, s113, s114, s115, s116, s117, s118, s119, s120, s121, s122, s123, s124, s125, s126, s127, s128, s129, s130, s131, s132, s133, s134, s135, s136, s137, s138, s139, s140, s141, s142, s143, s144, s145, s146, s147, s148, s149, s150, s151, s152, s153, s154, s155, s156, s157, s158, s159, s160, s161, s162, s163, s164, s165, s166, s167, s168, s169, s170, s171, s172, s173, s174, s175, s176, s177, s178, s179, s180, s181, s182, s183, s184, s185, s186, s187, s188, s189, s190, s191, s192, s193, s194, s195, s196, s197, s198, s199, s200, s201, s202, s203, s204, s205, s206, s207, s208, s209, s210, s211, s212, s213, s214], []⟩ w := by
  obtain ⟨i5, hi5, hz5, hs5, hb5⟩ := info_parts info5
  conv => arg 2; whnf
  go_wp2_with fail
  refine (parse_all headT w (HE.out.next HB.out)).mono ?_
  rintro e w1 ⟨A1, n1, c1, hn, rfl, ho, hb⟩
  rw [parse_headT] at hn ho ⊢
  have HB1 := Lib.hid (bNext HB.out hb)
  clear hn ho hb
  go_upto_region 33 with fail
  obtain ⟨w2, hw2⟩ : ∃ X, Hid (X = w1.alloc (.cells (bkC zBk A1 zBk.code.length c1) 28)) := ⟨_, rfl⟩
  rw [show w1.alloc (.cells #[.int .i64 0, .string ⟨#[]⟩, .int .i64 0, .int .i64 0, .int .i64 0, .int .i64 0, .string ⟨#[]⟩, .int .i64 0, .slice A1 0 c1] 28) = w2 from hw2.out.symm]
  have HB2 := Lib.hid (show Below w0.heap.size w0 w2 by rw [hw2.out]; exact bNext HB1.out (bAlloc _ _))
  clear hw2 HB1 HB
  go_wp2_with (at_make; refine wpList_make_full _ rfl _ _ 45 rfl w0.heap.size 5 i5 (.int .u8 0) 1 (by kernel_rfl) hi5 hz5 hs5 .i64 .i64 16385 16385 16385 rfl rfl rfl rfl (by rw [hb5]; decide) (by unfold maxLen; omega) HB2.out.size ?_)
  intro w3 ho hg
  obtain ⟨zr, hzr⟩ : ∃ l, Hid (l = List.replicate 16385 (0 : UInt8)) := ⟨_, rfl⟩
  have hcv := conv_zero ho
  rw [← hzr.out] at hcv
  have HZL := Lib.hid (show zr.length = 16385 by rw [hzr.out]; exact List.length_replicate)
  have HB3 := Lib.hid (HB2.out.grown hg HB2.out.size (fun g' e => by cases e))
  clear ho hg HB2 hzr
  go_wp2_with fail
  clear hcv
  refine (parse_all zr w3 (HE.out.next HB3.out)).mono ?_
  rintro e w4 ⟨A4, n4, c4, hn, rfl, ho, hb⟩
  rw [parse_long0 zr HZL.out] at hn ho ⊢
  have HB4 := Lib.hid (bNext HB3.out hb)
  clear hn ho hb HB3
  go_upto_region 34 with fail
  obtain ⟨w5, hw5⟩ : ∃ X, Hid (X = w4.alloc (.cells (bkC zBk A4 zBk.code.length c4) 28)) := ⟨_, rfl⟩
  rw [show w4.alloc (.cells #[.int .i64 0, .string ⟨#[]⟩, .int .i64 0, .int .i64 0, .int .i64 0, .int .i64 0, .string ⟨#[]⟩, .int .i64 0, .slice A4 0 c4] 28) = w5 from hw5.out.symm]
  have HB5 := Lib.hid (show Below w0.heap.size w0 w5 by rw [hw5.out]; exact bNext HB4.out (bAlloc _ _))
  clear hw5 HB4
  go_wp2_with fail
  refine (parse_all lastT w5 (HE.out.next HB5.out)).mono ?_
  rintro e w6 ⟨A6, n6, c6, hn, rfl, ho, hb⟩
  obtain ⟨b, hbv⟩ : ∃ b, Hid (b = (parseV lastT).1) := ⟨_, rfl⟩
  obtain ⟨ln, hln⟩ : ∃ b, Hid (b = (parseV lastT).2.1) := ⟨_, rfl⟩
  have HBC := Lib.hid (show b.code.length = 1 by rw [hbv.out]; exact parse_lastT.1)
  rw [← hbv.out, ← hln.out, parse_lastT.2]
  have HB6 := Lib.hid (bNext HB5.out hb)
  clear hn ho hb HB5
  go_upto_region 35 with fail
  obtain ⟨w7, hw7⟩ : ∃ X, Hid (X = w6.alloc (.cells (bkC b A6 b.code.length c6) 28)) := ⟨_, rfl⟩
  obtain ⟨p, hp⟩ : ∃ X, Hid (X = w6.heap.size) := ⟨_, rfl⟩
  rw [show w6.alloc (.cells (bkC b A6 b.code.length c6) 28) = w7 from hw7.out.symm, ← hp.out]
  have HP7 := Lib.hid (show Blk w7 p 28 (bkC b A6 b.code.length c6) by rw [hw7.out, hp.out]; exact Blk.new _ _ _)
  have HB7 := Lib.hid (show Below w0.heap.size w0 w7 by rw [hw7.out]; exact bNext HB6.out (bAlloc _ _))
  clear hw7 hp HB6
  have t8 := HP7.out.cell 8
  have tl := HP7.out.lt
  simp at t8
  rw [HBC.out] at t8
  go_wp2_with fail
  refine (reads_any ⟨24, 0, 0, 0, ⟨#[]⟩, 0⟩ w7).mono ?_
  rintro e w8 ⟨v, rfl, ho⟩
  rw [rd_24] at ho
  obtain ⟨A8, c8, rfl, _, hb⟩ := ret_ints ho (by decide)
  have HB8 := Lib.hid (bNext HB7.out hb)
  clear ho hb t8 tl HB7
  go_wp2_with fail
  refine (awake_any w8 (HE.out.next HB8.out)).mono ?_
  rintro e w9 ⟨rfl, hb⟩
  have HB9 := Lib.hid (bNext HB8.out hb)
  clear hb
  go_wp2_with fail
  go_ret
  exact ⟨rfl, HB9.out⟩
end Go.Proofs.YtbipeakinmbdiaaGreatDoor
