/-
  The reference's copy of a choice point.
-/
import Derived.Test.YtpkpffnabcgcbaaFx
namespace Go.Proofs.Ytpkpffnabcgcbaa
open Go.RowKit

set_option maxHeartbeats 4000000 in
theorem ownChoice_any (A A1 : Option Addr) (c c1 : Nat) (x : Ch) (w : World) (hcap : CapOk A x.args.length c) (hcap1 : CapOk A1 x.alts.length c1) (h : CellsAt w A x.args) (h1 : IntsAt w A1 x.alts) (hn : x.args.length ≤ 8796093022208) (hn1 : x.alts.length ≤ 17592186044416) :
    Calls Try.prog 34 #[chV x (.slice A x.args.length c, .slice A1 x.alts.length c1)] w fun e w' => (∃ va vb, e = .returned (chV x (va, vb)) ∧ w'.ownsRow w.heap.size 38 2 va x.args.length (cCs x.args) ∧ w'.ownsRow w.heap.size 2 1 vb x.alts.length (iCs x.alts)) ∧ Below w.heap.size w w' := by
  obtain ⟨i0, hi0, hz0, hy0, hb0⟩ := info_parts info2
  obtain ⟨W, HW⟩ : ∃ X, Hid (X = (w.alloc (.cells #[.int .i64 x.kind, .slice A x.args.length c, .int .i64 x.env, .int .i64 x.id, .int .i64 x.pc, .int .i64 x.cut, .int .i64 x.mark, .int .i64 x.top, .int .i64 x.envs, .slice A1 x.alts.length c1, .int .i64 x.data] 29)).alloc (.cells #[.int .i64 0, .slice none 0 0, .int .i64 0, .int .i64 0, .int .i64 0, .int .i64 0, .int .i64 0, .int .i64 0, .int .i64 0, .slice none 0 0, .int .i64 0] 29)) := ⟨_, rfl⟩
  have hbW : Below w.heap.size w W := by rw [HW.out]; exact (bAlloc w _).alloc (by simp) _
  obtain ⟨q, hq⟩ : ∃ q, Hid (q = w.heap.size) := ⟨_, rfl⟩
  obtain ⟨r, hr⟩ : ∃ q, Hid (q = w.heap.size + 1) := ⟨_, rfl⟩
  have hk0 : Blk W q 29 #[.int .i64 x.kind, .slice A x.args.length c, .int .i64 x.env, .int .i64 x.id, .int .i64 x.pc, .int .i64 x.cut, .int .i64 x.mark, .int .i64 x.top, .int .i64 x.envs, .slice A1 x.alts.length c1, .int .i64 x.data] := by rw [HW.out, hq.out]; exact (Blk.new w _ _).alloc _
  have hk1 : Blk W r 29 #[.int .i64 0, .slice none 0 0, .int .i64 0, .int .i64 0, .int .i64 0, .int .i64 0, .int .i64 0, .int .i64 0, .int .i64 0, .slice none 0 0, .int .i64 0] := by
    rw [HW.out, hr.out]
    have h1 := Blk.new (w.alloc (.cells #[.int .i64 x.kind, .slice A x.args.length c, .int .i64 x.env, .int .i64 x.id, .int .i64 x.pc, .int .i64 x.cut, .int .i64 x.mark, .int .i64 x.top, .int .i64 x.envs, .slice A1 x.alts.length c1, .int .i64 x.data] 29)) 29 #[.int .i64 0, .slice none 0 0, .int .i64 0, .int .i64 0, .int .i64 0, .int .i64 0, .int .i64 0, .int .i64 0, .int .i64 0, .slice none 0 0, .int .i64 0]
    rw [World.size_alloc] at h1
    exact h1
  have HCUT := Lib.hid (own_any A c x.args W hcap (h.next hbW) hn)
  have HB := Lib.hid hbW
  have HI := Lib.hid h1
  have HCI := Lib.hid hcap1
  have hqr : q ≠ r := by rw [hq.out, hr.out]; omega
  have hqw : w.heap.size ≤ q := by rw [hq.out]; exact Nat.le_refl _
  have hrw : w.heap.size ≤ r := by rw [hr.out]; omega
  have c1' := hk0.cell 1
  have hl := hk0.lt
  have hrW := hk1.lt
  simp at c1'
  clear h hcap hbW h1 hcap1
  go_enter Try.func34, Try.ntmps34
  go_upto_region 1 with fail
  rw [← HW.out, ← hr.out, ← hq.out]
  clear HW
  go_wp2_with fail
  refine HCUT.out.mono ?_
  rintro e w1 ⟨⟨v, rfl, hv⟩, hb1⟩
  obtain ⟨Av, av, rfl, -⟩ := own_form hv
  have k0 := hk0.next hb1
  have k1 := hk1.next hb1
  have e1 := k0.cell 1
  have f1 := k0.frozen 1
  have el := k0.lt
  simp at e1
  have HV := Lib.hid hv
  have HB1 := Lib.hid (bNext HB.out hb1)
  have hW1 := HB.out.size
  have hz1 := hb1.size
  clear hv hb1 HCUT hk0 hk1 c1'
  go_upto_region 2 with fail
  have k0' := k0.set_ 1 (.slice Av x.args.length av)
  have k1' := k1.far (p := ⟨q, 1, none⟩) (fun e => hqr e.symm) (.slice Av x.args.length av)
  obtain ⟨W2, HW2⟩ : ∃ X, Hid (X = w1.setCell ⟨q, 1, none⟩ (.slice Av x.args.length av)) := ⟨_, rfl⟩
  have hb2 : Below w.heap.size w W2 := by rw [HW2.out]; exact HB1.out.setCell hqw _
  have hv2 : W2.ownsRow W.heap.size 38 2 (.slice Av x.args.length av) x.args.length (cCs x.args) := by
    rw [HW2.out]
    exact own_stay HV.out fun k hk => heap_setCell_other _ _ _ _ (by have := (HV.out.lt k hk).1; simp; omega)
  have hz2 : W2.heap.size = w1.heap.size := by rw [HW2.out]; simp
  rw [← HW2.out] at k0' k1' ⊢
  have HV2 := Lib.hid hv2
  have HB2 := Lib.hid hb2
  have hk2 : Blk W2 q 29 #[.int .i64 x.kind, .slice Av x.args.length av, .int .i64 x.env, .int .i64 x.id, .int .i64 x.pc, .int .i64 x.cut, .int .i64 x.mark, .int .i64 x.top, .int .i64 x.envs, .slice A1 x.alts.length c1, .int .i64 x.data] := by simpa using k0'
  have HR := Lib.hid (HI.out.next hb2).row
  have n9 := hk2.cell 9
  have nf9 := hk2.frozen 9
  have nl := hk2.lt
  simp at n9
  clear k0 k1 e1 f1 k0' HW2 hb2 hv2 HB1 el
  go_wp2_with (at_builtin; refine wpList_append_src rfl _ _ 27 rfl W2.heap.size 2 i0 _ 1 8 Try.underlying27 hi0 hz0 hy0 hb0 rfl (by decide) (.slice none 0 0) 0 [] rfl (World.ownsRow_nil W2 W2.heap.size 2 1) A1 x.alts.length c1 (iCs x.alts) rfl HCI.out ?c1 ?c2 ?c3 ?c4 ?c5 ?c6 ?_)
  case c1 => simp [iCs]
  case c2 => exact fun ad ha => HR.out ad ha
  case c3 => exact i_one _
  case c4 => unfold maxLen; omega
  case c5 => omega
  case c6 => exact Nat.le_refl _
  intro v1 w3 ho3 hg3 hat3
  have hb3 : Below W2.heap.size W2 w3 := (Below.refl _ _).grown hg3 (Nat.le_refl _) (fun k hk => by cases hk)
  obtain ⟨Bv, bv, rfl, -⟩ := own_form ho3
  have k3 := hk2.next hb3
  have k4 := k1'.next hb3
  have e0 := k3.cell 0
  have e1 := k3.cell 1
  have e2 := k3.cell 2
  have e3 := k3.cell 3
  have e4 := k3.cell 4
  have e5 := k3.cell 5
  have e6 := k3.cell 6
  have e7 := k3.cell 7
  have e8 := k3.cell 8
  have e9 := k3.cell 9
  have e10 := k3.cell 10
  have g0 := k4.cell 0
  have g1 := k4.cell 1
  have g2 := k4.cell 2
  have g3 := k4.cell 3
  have g4 := k4.cell 4
  have g5 := k4.cell 5
  have g6 := k4.cell 6
  have g7 := k4.cell 7
  have g8 := k4.cell 8
  have g9 := k4.cell 9
  have g10 := k4.cell 10
  have p0 := k4.frozen 0
  have p1 := k4.frozen 1
  have p2 := k4.frozen 2
  have p3 := k4.frozen 3
  have p4 := k4.frozen 4
  have p5 := k4.frozen 5
  have p6 := k4.frozen 6
  have p7 := k4.frozen 7
  have p8 := k4.frozen 8
  have p9 := k4.frozen 9
  have p10 := k4.frozen 10
  simp at e0 g0 e1 g1 e2 g2 e3 g3 e4 g4 e5 g5 e6 g6 e7 g7 e8 g8 e9 g9 e10 g10
  have f9 := k3.frozen 9
  have el := k3.lt
  have gl := k4.lt
  have HV3 := Lib.hid (own_stay (w' := w3) HV2.out fun k hk => hb3.block k (HV2.out.lt k hk).2)
  have HO3 := Lib.hid (show w3.ownsRow W2.heap.size 2 1 (.slice Bv x.alts.length bv) x.alts.length (iCs x.alts) by rw [hz2]; simpa using ho3)
  have HB3 := Lib.hid (bNext HB2.out hb3)
  have hrl := k1'.lt
  clear ho3 hg3 hat3 hb3 n9 nf9 nl hk2 k1' HV HB2 HV2
  go_wp2_with fail
  refine bodyPost_ret (v := .agg #[.int .i64 x.kind, .slice Av x.args.length av, .int .i64 x.env, .int .i64 x.id, .int .i64 x.pc, .int .i64 x.cut, .int .i64 x.mark, .int .i64 x.top, .int .i64 x.envs, .slice Bv x.alts.length bv, .int .i64 x.data]) (by simp only [results, Try.results34]; go_simp) rfl ?_
  refine ⟨⟨_, _, rfl, own_base (own_stay HV3.out fun k hk => ?_) hW1, own_base (own_stay HO3.out fun k hk => ?_) (by omega)⟩, ?_⟩
  · have hkW := (HV3.out.lt k hk).1
    repeat rw [heap_setCell_other _ _ _ _ (by simp; omega)]
  · have hkW := (HO3.out.lt k hk).1
    repeat rw [heap_setCell_other _ _ _ _ (by simp; omega)]
  · repeat refine Below.setCell ?_ (by simp; omega) _
    exact HB3.out
end Go.Proofs.Ytpkpffnabcgcbaa
