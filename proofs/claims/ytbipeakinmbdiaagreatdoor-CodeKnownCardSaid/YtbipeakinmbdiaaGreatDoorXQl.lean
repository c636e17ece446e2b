/-
  Walk (part): CodeKnown's loop over the texts that are none.
-/
import Derived.Test.YtbipeakinmbdiaaGreatDoorXQa
import Derived.Test.YtbipeakinmbdiaaGreatDoorXQm
import Derived.Test.YtbipeakinmbdiaaGreatDoorXLp
import Derived.Test.YtbipeakinmbdiaaGreatDoorKu
namespace Go.Proofs.YtbipeakinmbdiaaGreatDoor
open Go.RowKit

/-- a part of a code -/
def kcut1 : Code → Bool → Code
  | .seq a _, false => a
  | .seq _ b, true => b
  | .cond _ a _, false => a
  | .cond _ _ b, true => b
  | .block _ b, _ => b
  | .loop b, _ => b
  | c, _ => c
def kcutAt (c : Code) (p : List Bool) : Code := p.foldl kcut1 c
def kcodeOf (f : Func) : Code := f.body.getD .skip
set_option maxRecDepth 100000 in
set_option maxHeartbeats 8000000 in
theorem known_loop {s0 s1 s2 s3 s4 s5 s6 s7 s8 s9 s10 s11 s12 s13 s14 s15 s16 s17 s18 s19 s20 s21 s22 s23 s24 s25 s26 s27 s28 s29 s30 s31 s32 s33 s34 s35 s36 s37 s38 s39 s40 s41 s42 s43 s44 s45 s46 s47 s48 s49 s50 s51 s52 s53 s54 s55 s56 s57 s58 s59 s60 s61 s62 s63 s64 s65 s66 s67 s68 s69 s70 s71 s72 s73 s74 s75 s76 s77 s78 s79 s80 s81 s82 s83 s84 s85 s86 s87 s88 s89 s90 s91 s92 s93 s94 s95 s96 s97 s98 s99 s100 s101 s102 s103 s104 s105 s106 s107 s108 s109 s110 s111 s112 s113 s114 s115 s116 s117 s118 s119 s120 s121 s122 s123 s124 s125 s126 s127 s128 s129 s130 s131 s132 s133 s134 s135 s136 s137 s138 s139 s141 s142 s143 s144 s145 s146 s147 s148 s149 s150 s151 s152 s153 s154 s155 s156 s157 s158 s159 s160 s161 s162 s163 s164 s165 s166 s167 s168 s169 s170 s171 s172 s173 s174 s175 s176 s177 s178 s179 s180 s181 s182 s183 s184 s185 s186 s187 s188 s189 s190 s191 s192 s193 s194 s195 s196 s197 s198 s199 s200 s201 s202 s203 s204 s205 s206 s207 s208 s209 s210 s211 s212 s213 s214 : Value} {g r : Nat} {w0 w : World} (Q : Exit → Act → World → Prop) (HI : Hid (ItM w g r knownL)) (HB : Hid (Below w0.heap.size w0 w)) (HE : Hid (Env w0)) (HRL : Hid (w0.heap.size ≤ r))
    (hQ : ∀ (v0 v13 v14 v15 v16 v17 v141 v142 v143 v144 v145 v146 v147 v148 v149 v150 v151 v152 v153 v154 v155 v156 v157 v158 v159 v160 v161 v162 v163 v164 : Value) (w' : World), Below w0.heap.size w0 w' → Q .normal ⟨#[v0, s1, s2, s3, s4, s5, s6, s7, s8, s9, s10, s11, s12, v13, v14, v15, v16, v17, s18, s19, s20, s21, s22, s23, s24, s25, s26, s27, s28, s29, s30, s31, s32, s33, s34, s35, s36, s37, s38, s39, s40, s41, s42, s43, s44, s45, s46, s47, s48, s49, s50, s51, s52, s53, s54, s55, s56, s57, s58, s59, s60, s61, s62, s63, s64, s65, s66, s67, s68, s69, s70, s71, s72, s73, s74, s75, s76, s77, s78, s79, s80, s81, s82, s83, s84, s85, s86, s87, s88, s89, s90, s91, s92, s93, s94, s95, s96, s97, s98, s99, s100, s101, s102, s103, s104, s105, s106, s107, s108, s109, s110, s111, s112, s113, s114, s115, s116, s117, s118, s119, s120, s121, s122, s123, s124, s125, s126, s127, s128, s129, s130, s131, s132, s133, s134, s135, s136, s137, s138, s139, .pointer (some ⟨r, 0, none⟩), v141, v142, v143, v144, v145, v146, v147, v148, v149, v150, v151, v152, v153, v154, v155, v156, v157, v158, v159, v160, v161, v162, v163, v164, s165, s166, s167, s168, s169, s170, s171, s172, s173, s174, s175, s176, s177, s178, s179, s180, s181, s182, s183, s184, s185, s186, s187, s188, s189, s190, s191, s192, s193, s194, s195, s196, s197, s198, s199, s200, s201, s202, s203, s204, s205, s206, s207, s208, s209, s210, s211, s212, s213, s214], []⟩ w') :
    Code.wp Tryz.prog (kcutAt (kcodeOf Tryz.f4) [true, true, true, true, true, true, true, true, true, true, true, true, true, true, true, true, true, true, true, true, true, true, true, false, true]) Q ⟨#[s0, s1, s2, s3, s4, s5, s6, s7, s8, s9, s10, s11, s12, s13, s14, s15, s16, s17, s18, s19, s20, s21, s22, s23, s24, s25, s26, s27, s28, s29, s30, s31, s32, s33, s34, s35, s36, s37, s38, s39, s40, s41, s42, s43, s44, s45, s46, s47, s48, s49, s50, s51, s52, s53, s54, s55, s56, s57, s58, s59, s60, s61, s62, s63, s64, s65, s66, s67, s68, s69, s70, s71, s72, s73, s74, s75, s76, s77, s78, s79, s80, s81, s82, s83, s84, s85, s86, s87, s88, s89, s90, s91, s92, s93, s94, s95, s96, s97, s98, s99, s100, s101, s102, s103, s104, s105, s106, s107, s108, s109, s110, s111, s112, s113, s114, s115, s116, s117, s118, s119, s120, s121, s122, s123, s124, s125, s126, s127, s128, s129, s130, s131, s132, s133, s134, s135, s136, s137, s138, s139, .pointer (some ⟨r, 0, none⟩), s141, s142, s143, s144, s145, s146, s147, s148, s149, s150, s151, s152, s153, s154, s155, s156, s157, s158, s159, s160, s161, s162, s163, s164, s165, s166, s167, s168, s169, s170, s171, s172, s173, s174, s175, s176, s177, s178, s179, s180, s181, s182, s183, s184, s185, s186, s187, s188, s189, s190, s191, s192, s193, s194, s195, s196, s197, s198, s199, s200, s201, s202, s203, s204, s205, s206, s207, s208, s209, s210, s211, s212, s213, s214], []⟩ w := by
  have HQ := Lib.hid hQ
  clear hQ
  conv => arg 2; whnf
  go_wp2_with fail
  go_loopw [13] (fun _ wr => Hid (ItM wr g r knownL) ∧ Hid (Below w0.heap.size w0 wr)) (fun _ wr => wr.rangeLeft g r)
  case atStart => exact ⟨HI, HB⟩
  case round =>
    clear HI HB
    obtain ⟨HI, HB⟩ := hrel
    go_wp2_with (at_next; refine wpList_next_str _ rfl _ rfl g r _ rfl HI.out ?_ ?_)
    · go_wp2_with fail
      exact HQ.out _ _ _ _ _ _ _ _ _ _ _ _ _ _ _ _ _ _ _ _ _ _ _ _ _ _ _ _ _ _ _ HB.out
    · intro qt qv x2 hq hI2 hlt hg2 hz2 hen
      obtain ⟨q, hqq⟩ : ∃ q : List UInt8 × Int, q = (qt, qv) := ⟨_, rfl⟩
      obtain ⟨rfl, rfl⟩ : qt = q.1 ∧ qv = q.2 := by rw [hqq]; exact ⟨rfl, rfl⟩
      clear hqq
      have HI2 := Lib.hid hI2
      have HB2 := Lib.hid (HB.out.grown hg2 HB.out.size (fun g' e => by injection e with e; have := HRL.out; omega))
      have HLT := Lib.hid hlt
      have HPQ := Lib.hid (known_all q hq)
      clear hI2 hlt hg2 hz2 hq HI HB
      go_wp2_with fail
      refine (parse_all q.1 x2 (HE.out.next HB2.out)).mono ?_
      rintro e x3 ⟨A, n, c, hn, rfl, ho, hb⟩
      rw [HPQ.out] at hn ho ⊢
      have HI3 := Lib.hid (HI2.out.stay hb)
      have HB3 := Lib.hid (bNext HB2.out hb)
      clear hn ho hb hen HB2
      go_upto_region 30 with fail
      obtain ⟨x4, hx4⟩ : ∃ X, Hid (X = x3.alloc (.cells (bkC zBk A zBk.code.length c) 28)) := ⟨_, rfl⟩
      obtain ⟨p, hp⟩ : ∃ X, Hid (X = x3.heap.size) := ⟨_, rfl⟩
      rw [show x3.alloc (.cells #[.int .i64 0, .string ⟨#[]⟩, .int .i64 0, .int .i64 0, .int .i64 0, .int .i64 0, .string ⟨#[]⟩, .int .i64 0, .slice A 0 c] 28) = x4 from hx4.out.symm, ← hp.out]
      have HP4 := Lib.hid (show Blk x4 p 28 (bkC zBk A zBk.code.length c) by rw [hx4.out, hp.out]; exact Blk.new _ _ _)
      have HI4 := Lib.hid (show ItM x4 g r knownL ∧ x4.rangeLeft g r = x3.rangeLeft g r by rw [hx4.out]; exact HI3.out.1.stay (bAlloc _ _))
      have HB4 := Lib.hid (show Below w0.heap.size w0 x4 by rw [hx4.out]; exact bNext HB3.out (bAlloc _ _))
      clear hx4 hp HB3
      have t0 := HP4.out.cell 0
      have t1 := HP4.out.cell 1
      have t2 := HP4.out.cell 2
      have t3 := HP4.out.cell 3
      have t4 := HP4.out.cell 4
      have t5 := HP4.out.cell 5
      have t6 := HP4.out.cell 6
      have t7 := HP4.out.cell 7
      have t8 := HP4.out.cell 8
      have tl := HP4.out.lt
      simp at t0 t1 t2 t3 t4 t5 t6 t7 t8
      have hqe : (q.2 == q.2) = true := beq_self_eq_true _
      have hqn : (q.2 != q.2) = false := by rw [bne, hqe]; rfl
      go_wp2_with fail
      refine (Same_any zBk zBk A none c 0 x4 (InsAt.nil _ _ _) (InsAt.nil _ _ _)).mono ?_
      rintro e x5 ⟨rfl, hb⟩
      rw [decide_eq_true (rfl : zBk = zBk)]
      have HI5 := Lib.hid (HI4.out.1.stay hb)
      have HB5 := Lib.hid (bNext HB4.out hb)
      clear t0 t1 t2 t3 t4 t5 t6 t7 t8 tl
      clear hb
      go_wp2_with fail
      exact ⟨⟨Lib.hid HI5.out.1, HB5⟩, by rw [HI5.out.2, HI4.out.2, HI3.out.2]; exact HLT.out⟩
end Go.Proofs.YtbipeakinmbdiaaGreatDoor
