/-
  The walk of Same at equal stacks.
-/
import Derived.Test.YtpkpffnabcgcbaaFv
import Derived.Test.YtpkpffnabcgcbaaFp
namespace Go.Proofs.Ytpkpffnabcgcbaa
open Go.RowKit

set_option maxHeartbeats 4000000 in
theorem same_any {A A1 D D1 : Option Addr} {c c1 d d1 : Nat} (s : St) (w : World) (h : StAt w A c A1 c1 s) (k : StAt w D d D1 d1 s) (hn : s.envs.length ≤ 1000000000000) (hnc : s.chs.length ≤ 1000000000000) (hny : ∀ x ∈ s.envs, x.y.length ≤ 8796093022208)
    (hna : ∀ x ∈ s.chs, x.args.length ≤ 8796093022208 ∧ x.alts.length ≤ 17592186044416) :
    Calls Try.prog 16 #[stV s A c A1 c1, stV s D d D1 d1] w fun e w' => e = .returned (.bool true) ∧ Below w.heap.size w w' := by
  obtain ⟨W, HW⟩ : ∃ X, Hid (X = (w.alloc (.cells #[.slice A s.envs.length c, .int .i64 s.e, .slice A1 s.chs.length c1] 25)).alloc (.cells #[.slice D s.envs.length d, .int .i64 s.e, .slice D1 s.chs.length d1] 25)) := ⟨_, rfl⟩
  have hbW : Below w.heap.size w W := by rw [HW.out]; exact (bAlloc w _).alloc (by simp) _
  obtain ⟨q, hq⟩ : ∃ q, Hid (q = w.heap.size) := ⟨_, rfl⟩
  obtain ⟨r, hr⟩ : ∃ q, Hid (q = w.heap.size + 1) := ⟨_, rfl⟩
  have hk0 : Blk W q 25 #[.slice A s.envs.length c, .int .i64 s.e, .slice A1 s.chs.length c1] := by rw [HW.out, hq.out]; exact (Blk.new w _ _).alloc _
  have hk1 : Blk W r 25 #[.slice D s.envs.length d, .int .i64 s.e, .slice D1 s.chs.length d1] := by
    rw [HW.out, hr.out]
    have h1 := Blk.new (w.alloc (.cells #[.slice A s.envs.length c, .int .i64 s.e, .slice A1 s.chs.length c1] 25)) 25 #[.slice D s.envs.length d, .int .i64 s.e, .slice D1 s.chs.length d1]
    rw [World.size_alloc] at h1
    exact h1
  have HS := Lib.hid (h.next hbW)
  have HT := Lib.hid (k.next hbW)
  have HB := Lib.hid hbW
  have HK := Lib.hid hk0
  have HL := Lib.hid hk1
  have b0 := hk0.cell 0
  have b1 := hk0.cell 1
  have b2 := hk0.cell 2
  have d0 := hk1.cell 0
  have d1' := hk1.cell 1
  have d2 := hk1.cell 2
  have bl := hk0.lt
  have dl := hk1.lt
  simp at b0 b1 b2 d0 d1' d2
  clear h k hbW hk0 hk1
  go_enter Try.func16, Try.ntmps16
  go_upto_region 1 with fail
  rw [← HW.out, ← hr.out, ← hq.out]
  clear HW
  go_wp2_with fail
  go_loopw [5] (fun i wr => ∃ k : Nat, k ≤ s.envs.length ∧ i = .int .i64 (k : Int) ∧ Hid (Below W.heap.size W wr)) (fun i _ => s.envs.length - (intOf i).toNat)
  case atStart => exact ⟨0, by omega, rfl, Lib.hid (Below.refl _ _)⟩
  case round =>
    clear b0 b1 b2 d0 d1' d2 bl dl
    obtain ⟨k, hk, rfl, HB1⟩ := hrel
    have hkr := HK.out.next HB1.out
    have hlr := HL.out.next HB1.out
    have i0 := hkr.cell 0
    have i2 := hkr.cell 2
    have j0 := hlr.cell 0
    have j2 := hlr.cell 2
    have il := hkr.lt
    have jl := hlr.lt
    simp at i0 i2 j0 j2
    clear hkr hlr
    by_cases hlt : k < s.envs.length
    · obtain ⟨x, hx⟩ : ∃ x, s.envs[k]? = some x := ⟨_, List.getElem?_eq_getElem hlt⟩
      obtain ⟨b, off, rfl, hb, hat⟩ := (HS.out.next HB1.out).envs (by omega)
      obtain ⟨b', off', rfl, hb', hat'⟩ := (HT.out.next HB1.out).envs (by omega)
      obtain ⟨Ay, cy, x0, x1, x2, x3, -, ca0⟩ := hat k x hx
      obtain ⟨Ez, ez, y0, y1, y2, y3, -, ca1⟩ := hat' k x hx
      have hyl := hny x (List.mem_of_getElem? hx)
      have HCA := Lib.hid ca0
      have HC1 := Lib.hid ca1
      clear hat hat' hx ca0 ca1 
      go_upto_region 6 with fail
      obtain ⟨X0, HX0⟩ : ∃ X, Hid (X = wr.drew) := ⟨_, rfl⟩
      have hd0 : Below wr.heap.size wr X0 := by rw [HX0.out]; exact bDrew _
      have HB2 := Lib.hid (bNext HB1.out hd0)
      have HD := Lib.hid hd0
      refine wp_region_N (fun w' => Below wr.heap.size wr w') (fun _ => true) (by kernel_rfl) ?_
      rw [← HX0.out]
      clear HX0
      have hS0 : (fun w' => Below wr.heap.size wr w') X0 := hd0
      refine wpAnyN_take (i := 0) (v := ?v1) rfl (by kernel_rfl) (by kernel_rfl) (by kernel_rfl) (by kernel_rfl) (fun _ _ _ h => h) (Or.inl ⟨by rfl, ?hy1⟩) (by assumption) ?_
      case hy1 => intro w hSw; have zi0 := (hSw.cell (p := ⟨q, _, none⟩) il).trans i0; have zi2 := (hSw.cell (p := ⟨q, _, none⟩) il).trans i2; have zj0 := (hSw.cell (p := ⟨r, _, none⟩) jl).trans j0; have zj2 := (hSw.cell (p := ⟨r, _, none⟩) jl).trans j2; have zx0 := (hSw.cell (p := ⟨b, _, none⟩) hb).trans x0; have zx1 := (hSw.cell (p := ⟨b, _, none⟩) hb).trans x1; have zx2 := (hSw.cell (p := ⟨b, _, none⟩) hb).trans x2; have zx3 := (hSw.cell (p := ⟨b, _, none⟩) hb).trans x3; have zy0 := (hSw.cell (p := ⟨b', _, none⟩) hb').trans y0; have zy1 := (hSw.cell (p := ⟨b', _, none⟩) hb').trans y1; have zy2 := (hSw.cell (p := ⟨b', _, none⟩) hb').trans y2; have zy3 := (hSw.cell (p := ⟨b', _, none⟩) hb').trans y3; go_simp; try with_reducible rfl
      simp only [Act.put, List.getElem_toArray, List.getElem_cons_zero, List.setIfInBounds_toArray, List.set_cons_zero, List.set_cons_succ]
      refine wpAnyN_take (i := 1) (v := ?v2) rfl (by kernel_rfl) (by kernel_rfl) (by kernel_rfl) (by kernel_rfl) (fun _ _ _ h => h) (Or.inl ⟨by rfl, ?hy2⟩) (by assumption) ?_
      case hy2 => intro w hSw; have zi0 := (hSw.cell (p := ⟨q, _, none⟩) il).trans i0; have zi2 := (hSw.cell (p := ⟨q, _, none⟩) il).trans i2; have zj0 := (hSw.cell (p := ⟨r, _, none⟩) jl).trans j0; have zj2 := (hSw.cell (p := ⟨r, _, none⟩) jl).trans j2; have zx0 := (hSw.cell (p := ⟨b, _, none⟩) hb).trans x0; have zx1 := (hSw.cell (p := ⟨b, _, none⟩) hb).trans x1; have zx2 := (hSw.cell (p := ⟨b, _, none⟩) hb).trans x2; have zx3 := (hSw.cell (p := ⟨b, _, none⟩) hb).trans x3; have zy0 := (hSw.cell (p := ⟨b', _, none⟩) hb').trans y0; have zy1 := (hSw.cell (p := ⟨b', _, none⟩) hb').trans y1; have zy2 := (hSw.cell (p := ⟨b', _, none⟩) hb').trans y2; have zy3 := (hSw.cell (p := ⟨b', _, none⟩) hb').trans y3; go_simp; try with_reducible rfl
      simp only [Act.put, List.getElem_toArray, List.getElem_cons_zero, List.getElem_cons_succ, List.setIfInBounds_toArray, List.set_cons_zero, List.set_cons_succ]
      refine wpAnyN_take (i := 2) (v := ?v3) rfl (by kernel_rfl) (by kernel_rfl) (by kernel_rfl) (by kernel_rfl) (fun _ _ _ h => h) (Or.inl ⟨by rfl, ?hy3⟩) (by assumption) ?_
      case hy3 => intro w hSw; have zi0 := (hSw.cell (p := ⟨q, _, none⟩) il).trans i0; have zi2 := (hSw.cell (p := ⟨q, _, none⟩) il).trans i2; have zj0 := (hSw.cell (p := ⟨r, _, none⟩) jl).trans j0; have zj2 := (hSw.cell (p := ⟨r, _, none⟩) jl).trans j2; have zx0 := (hSw.cell (p := ⟨b, _, none⟩) hb).trans x0; have zx1 := (hSw.cell (p := ⟨b, _, none⟩) hb).trans x1; have zx2 := (hSw.cell (p := ⟨b, _, none⟩) hb).trans x2; have zx3 := (hSw.cell (p := ⟨b, _, none⟩) hb).trans x3; have zy0 := (hSw.cell (p := ⟨b', _, none⟩) hb').trans y0; have zy1 := (hSw.cell (p := ⟨b', _, none⟩) hb').trans y1; have zy2 := (hSw.cell (p := ⟨b', _, none⟩) hb').trans y2; have zy3 := (hSw.cell (p := ⟨b', _, none⟩) hb').trans y3; go_simp; try with_reducible rfl
      simp only [Act.put, List.getElem_toArray, List.getElem_cons_zero, List.getElem_cons_succ, List.setIfInBounds_toArray, List.set_cons_zero, List.set_cons_succ]
      refine wpAnyN_take (i := 3) (v := ?v4) rfl (by kernel_rfl) (by kernel_rfl) (by kernel_rfl) (by kernel_rfl) (fun _ _ _ h => h) (Or.inl ⟨by rfl, ?hy4⟩) (by assumption) ?_
      case hy4 => intro w hSw; have zi0 := (hSw.cell (p := ⟨q, _, none⟩) il).trans i0; have zi2 := (hSw.cell (p := ⟨q, _, none⟩) il).trans i2; have zj0 := (hSw.cell (p := ⟨r, _, none⟩) jl).trans j0; have zj2 := (hSw.cell (p := ⟨r, _, none⟩) jl).trans j2; have zx0 := (hSw.cell (p := ⟨b, _, none⟩) hb).trans x0; have zx1 := (hSw.cell (p := ⟨b, _, none⟩) hb).trans x1; have zx2 := (hSw.cell (p := ⟨b, _, none⟩) hb).trans x2; have zx3 := (hSw.cell (p := ⟨b, _, none⟩) hb).trans x3; have zy0 := (hSw.cell (p := ⟨b', _, none⟩) hb').trans y0; have zy1 := (hSw.cell (p := ⟨b', _, none⟩) hb').trans y1; have zy2 := (hSw.cell (p := ⟨b', _, none⟩) hb').trans y2; have zy3 := (hSw.cell (p := ⟨b', _, none⟩) hb').trans y3; go_simp; try with_reducible rfl
      simp only [Act.put, List.getElem_toArray, List.getElem_cons_zero, List.getElem_cons_succ, List.setIfInBounds_toArray, List.set_cons_zero, List.set_cons_succ]
      refine wpAnyN_take (i := 4) (v := ?v5) rfl (by kernel_rfl) (by kernel_rfl) (by kernel_rfl) (by kernel_rfl) (fun _ _ _ h => h) (Or.inl ⟨by rfl, ?hy5⟩) (by assumption) ?_
      case hy5 => intro w hSw; have zi0 := (hSw.cell (p := ⟨q, _, none⟩) il).trans i0; have zi2 := (hSw.cell (p := ⟨q, _, none⟩) il).trans i2; have zj0 := (hSw.cell (p := ⟨r, _, none⟩) jl).trans j0; have zj2 := (hSw.cell (p := ⟨r, _, none⟩) jl).trans j2; have zx0 := (hSw.cell (p := ⟨b, _, none⟩) hb).trans x0; have zx1 := (hSw.cell (p := ⟨b, _, none⟩) hb).trans x1; have zx2 := (hSw.cell (p := ⟨b, _, none⟩) hb).trans x2; have zx3 := (hSw.cell (p := ⟨b, _, none⟩) hb).trans x3; have zy0 := (hSw.cell (p := ⟨b', _, none⟩) hb').trans y0; have zy1 := (hSw.cell (p := ⟨b', _, none⟩) hb').trans y1; have zy2 := (hSw.cell (p := ⟨b', _, none⟩) hb').trans y2; have zy3 := (hSw.cell (p := ⟨b', _, none⟩) hb').trans y3; go_simp; try with_reducible rfl
      simp only [Act.put, List.getElem_toArray, List.getElem_cons_zero, List.getElem_cons_succ, List.setIfInBounds_toArray, List.set_cons_zero, List.set_cons_succ]
      refine wpAnyN_take (i := 5) (v := ?v6) rfl (by kernel_rfl) (by kernel_rfl) (by kernel_rfl) (by kernel_rfl) (fun _ _ _ h => h) (Or.inl ⟨by rfl, ?hy6⟩) (by assumption) ?_
      case hy6 => intro w hSw; have zi0 := (hSw.cell (p := ⟨q, _, none⟩) il).trans i0; have zi2 := (hSw.cell (p := ⟨q, _, none⟩) il).trans i2; have zj0 := (hSw.cell (p := ⟨r, _, none⟩) jl).trans j0; have zj2 := (hSw.cell (p := ⟨r, _, none⟩) jl).trans j2; have zx0 := (hSw.cell (p := ⟨b, _, none⟩) hb).trans x0; have zx1 := (hSw.cell (p := ⟨b, _, none⟩) hb).trans x1; have zx2 := (hSw.cell (p := ⟨b, _, none⟩) hb).trans x2; have zx3 := (hSw.cell (p := ⟨b, _, none⟩) hb).trans x3; have zy0 := (hSw.cell (p := ⟨b', _, none⟩) hb').trans y0; have zy1 := (hSw.cell (p := ⟨b', _, none⟩) hb').trans y1; have zy2 := (hSw.cell (p := ⟨b', _, none⟩) hb').trans y2; have zy3 := (hSw.cell (p := ⟨b', _, none⟩) hb').trans y3; go_simp; try with_reducible rfl
      simp only [Act.put, List.getElem_toArray, List.getElem_cons_zero, List.getElem_cons_succ, List.setIfInBounds_toArray, List.set_cons_zero, List.set_cons_succ]
      refine wpAnyN_take (i := 6) (v := ?v7) rfl (by kernel_rfl) (by kernel_rfl) (by kernel_rfl) (by kernel_rfl) (fun _ _ _ h => h) (Or.inl ⟨by rfl, ?hy7⟩) (by assumption) ?_
      case hy7 => intro w hSw; have zi0 := (hSw.cell (p := ⟨q, _, none⟩) il).trans i0; have zi2 := (hSw.cell (p := ⟨q, _, none⟩) il).trans i2; have zj0 := (hSw.cell (p := ⟨r, _, none⟩) jl).trans j0; have zj2 := (hSw.cell (p := ⟨r, _, none⟩) jl).trans j2; have zx0 := (hSw.cell (p := ⟨b, _, none⟩) hb).trans x0; have zx1 := (hSw.cell (p := ⟨b, _, none⟩) hb).trans x1; have zx2 := (hSw.cell (p := ⟨b, _, none⟩) hb).trans x2; have zx3 := (hSw.cell (p := ⟨b, _, none⟩) hb).trans x3; have zy0 := (hSw.cell (p := ⟨b', _, none⟩) hb').trans y0; have zy1 := (hSw.cell (p := ⟨b', _, none⟩) hb').trans y1; have zy2 := (hSw.cell (p := ⟨b', _, none⟩) hb').trans y2; have zy3 := (hSw.cell (p := ⟨b', _, none⟩) hb').trans y3; go_simp; try with_reducible rfl
      simp only [Act.put, List.getElem_toArray, List.getElem_cons_zero, List.getElem_cons_succ, List.setIfInBounds_toArray, List.set_cons_zero, List.set_cons_succ]
      refine wpAnyN_take (i := 7) (v := ?v8) rfl (by kernel_rfl) (by kernel_rfl) (by kernel_rfl) (by kernel_rfl) (fun _ _ _ h => h) (Or.inl ⟨by rfl, ?hy8⟩) (by assumption) ?_
      case hy8 => intro w hSw; have zi0 := (hSw.cell (p := ⟨q, _, none⟩) il).trans i0; have zi2 := (hSw.cell (p := ⟨q, _, none⟩) il).trans i2; have zj0 := (hSw.cell (p := ⟨r, _, none⟩) jl).trans j0; have zj2 := (hSw.cell (p := ⟨r, _, none⟩) jl).trans j2; have zx0 := (hSw.cell (p := ⟨b, _, none⟩) hb).trans x0; have zx1 := (hSw.cell (p := ⟨b, _, none⟩) hb).trans x1; have zx2 := (hSw.cell (p := ⟨b, _, none⟩) hb).trans x2; have zx3 := (hSw.cell (p := ⟨b, _, none⟩) hb).trans x3; have zy0 := (hSw.cell (p := ⟨b', _, none⟩) hb').trans y0; have zy1 := (hSw.cell (p := ⟨b', _, none⟩) hb').trans y1; have zy2 := (hSw.cell (p := ⟨b', _, none⟩) hb').trans y2; have zy3 := (hSw.cell (p := ⟨b', _, none⟩) hb').trans y3; go_simp; try with_reducible rfl
      simp only [Act.put, List.getElem_toArray, List.getElem_cons_zero, List.getElem_cons_succ, List.setIfInBounds_toArray, List.set_cons_zero, List.set_cons_succ]
      refine wpAnyN_take (i := 8) (v := ?v9) rfl (by kernel_rfl) (by kernel_rfl) (by kernel_rfl) (by kernel_rfl) (fun _ _ _ h => h) (Or.inl ⟨by rfl, ?hy9⟩) (by assumption) ?_
      case hy9 => intro w hSw; have zi0 := (hSw.cell (p := ⟨q, _, none⟩) il).trans i0; have zi2 := (hSw.cell (p := ⟨q, _, none⟩) il).trans i2; have zj0 := (hSw.cell (p := ⟨r, _, none⟩) jl).trans j0; have zj2 := (hSw.cell (p := ⟨r, _, none⟩) jl).trans j2; have zx0 := (hSw.cell (p := ⟨b, _, none⟩) hb).trans x0; have zx1 := (hSw.cell (p := ⟨b, _, none⟩) hb).trans x1; have zx2 := (hSw.cell (p := ⟨b, _, none⟩) hb).trans x2; have zx3 := (hSw.cell (p := ⟨b, _, none⟩) hb).trans x3; have zy0 := (hSw.cell (p := ⟨b', _, none⟩) hb').trans y0; have zy1 := (hSw.cell (p := ⟨b', _, none⟩) hb').trans y1; have zy2 := (hSw.cell (p := ⟨b', _, none⟩) hb').trans y2; have zy3 := (hSw.cell (p := ⟨b', _, none⟩) hb').trans y3; go_simp; try with_reducible rfl
      simp only [Act.put, List.getElem_toArray, List.getElem_cons_zero, List.getElem_cons_succ, List.setIfInBounds_toArray, List.set_cons_zero, List.set_cons_succ]
      refine wpAnyN_take (i := 9) (v := ?v10) rfl (by kernel_rfl) (by kernel_rfl) (by kernel_rfl) (by kernel_rfl) (fun _ _ _ h => h) (Or.inl ⟨by rfl, ?hy10⟩) (by assumption) ?_
      case hy10 => intro w hSw; have zi0 := (hSw.cell (p := ⟨q, _, none⟩) il).trans i0; have zi2 := (hSw.cell (p := ⟨q, _, none⟩) il).trans i2; have zj0 := (hSw.cell (p := ⟨r, _, none⟩) jl).trans j0; have zj2 := (hSw.cell (p := ⟨r, _, none⟩) jl).trans j2; have zx0 := (hSw.cell (p := ⟨b, _, none⟩) hb).trans x0; have zx1 := (hSw.cell (p := ⟨b, _, none⟩) hb).trans x1; have zx2 := (hSw.cell (p := ⟨b, _, none⟩) hb).trans x2; have zx3 := (hSw.cell (p := ⟨b, _, none⟩) hb).trans x3; have zy0 := (hSw.cell (p := ⟨b', _, none⟩) hb').trans y0; have zy1 := (hSw.cell (p := ⟨b', _, none⟩) hb').trans y1; have zy2 := (hSw.cell (p := ⟨b', _, none⟩) hb').trans y2; have zy3 := (hSw.cell (p := ⟨b', _, none⟩) hb').trans y3; go_simp; try with_reducible rfl
      simp only [Act.put, List.getElem_toArray, List.getElem_cons_zero, List.getElem_cons_succ, List.setIfInBounds_toArray, List.set_cons_zero, List.set_cons_succ]
      refine wpAnyN_one (i := 10) (by kernel_rfl) rfl (fun K hK => ?_)
      simp only [List.getElem_toArray, List.getElem_cons_zero, List.getElem_cons_succ]
      go_simp
      refine (sameEnv_any x X0 (HCA.out.next HD.out) (HC1.out.next HD.out) hyl).mono ?_
      rintro e w9 ⟨rfl, h9⟩
      have HB9 := Lib.hid (bNext HB2.out h9)
      refine hK _ _ (fun _ => bNext hS0 h9) ?_
      (try simp only [Act.put, List.setIfInBounds_toArray, List.set_cons_zero, List.set_cons_succ])
      refine wpAnyN_one (i := 11) (by kernel_rfl) rfl (fun K hK => ?_)
      simp only [List.getElem_toArray, List.getElem_cons_zero, List.getElem_cons_succ]
      go_simp
      refine hK _ _ (fun _ => bNext hS0 h9) ?_
      (try simp only [Act.put, List.setIfInBounds_toArray, List.set_cons_zero, List.set_cons_succ])
      refine wpAnyN_done (by kernel_rfl) ?_ _
      clear h9
      clear x0 x1 x2 x3 y0 y1 y2 y3 i0 i2 j0 j2 il jl
      go_wp2_with fail
      exact ⟨⟨k + 1, by omega, by go_num, HB9⟩, by simp [intOf]; omega⟩
    · clear i0 i2 j0 j2 il jl
      have hkr := HK.out.next HB1.out
      have hlr := HL.out.next HB1.out
      have i0 := hkr.cell 0
      have i2 := hkr.cell 2
      have j0 := hlr.cell 0
      have j2 := hlr.cell 2
      have il := hkr.lt
      have jl := hlr.lt
      simp at i0 i2 j0 j2
      clear hkr hlr
      go_wp2_with fail
      go_loopw [6] (fun i w2 => ∃ k : Nat, k ≤ s.chs.length ∧ i = .int .i64 (k : Int) ∧ Hid (Below W.heap.size W w2)) (fun i _ => s.chs.length - (intOf i).toNat)
      case atStart => exact ⟨0, by omega, rfl, HB1⟩
      case round =>
        clear i0 i2 j0 j2 il jl HB1
        obtain ⟨k2, hk2, rfl, HB1⟩ := hrel
        have hkr := HK.out.next HB1.out
        have hlr := HL.out.next HB1.out
        have i0 := hkr.cell 0
        have i2 := hkr.cell 2
        have j0 := hlr.cell 0
        have j2 := hlr.cell 2
        have il := hkr.lt
        have jl := hlr.lt
        simp at i0 i2 j0 j2
        clear hkr hlr
        by_cases hlt2 : k2 < s.chs.length
        · obtain ⟨x, hx⟩ : ∃ x, s.chs[k2]? = some x := ⟨_, List.getElem?_eq_getElem hlt2⟩
          obtain ⟨b, off, rfl, hb, hat⟩ := (HS.out.next HB1.out).chs (by omega)
          obtain ⟨b', off', rfl, hb', hat'⟩ := (HT.out.next HB1.out).chs (by omega)
          obtain ⟨Ay, cy, Az, cz, x0, x1, x2, x3, x4, x5, x6, x7, x8, x9, x10, -, -, ca0, ca1⟩ := hat k2 x hx
          obtain ⟨Ey, ey, Ez, ez, y0, y1, y2, y3, y4, y5, y6, y7, y8, y9, y10, -, -, ca2, ca3⟩ := hat' k2 x hx
          have hyl := hna x (List.mem_of_getElem? hx)
          have HCA := Lib.hid ca0
          have HC1 := Lib.hid ca1
          have HC2 := Lib.hid ca2
          have HC3 := Lib.hid ca3
          clear hat hat' hx ca0 ca1 ca2 ca3
          go_upto_region 11 with fail
          obtain ⟨X0, HX0⟩ : ∃ X, Hid (X = wr.drew) := ⟨_, rfl⟩
          have hd0 : Below wr.heap.size wr X0 := by rw [HX0.out]; exact bDrew _
          have HB2 := Lib.hid (bNext HB1.out hd0)
          have HD := Lib.hid hd0
          refine wp_region_N (fun w' => Below wr.heap.size wr w') (fun _ => true) (by kernel_rfl) ?_
          rw [← HX0.out]
          clear HX0
          have hS0 : (fun w' => Below wr.heap.size wr w') X0 := hd0
          refine wpAnyN_take (i := 0) (v := ?v11) rfl (by kernel_rfl) (by kernel_rfl) (by kernel_rfl) (by kernel_rfl) (fun _ _ _ h => h) (Or.inl ⟨by rfl, ?hy11⟩) (by assumption) ?_
          case hy11 => intro w hSw; have zi0 := (hSw.cell (p := ⟨q, _, none⟩) il).trans i0; have zi2 := (hSw.cell (p := ⟨q, _, none⟩) il).trans i2; have zj0 := (hSw.cell (p := ⟨r, _, none⟩) jl).trans j0; have zj2 := (hSw.cell (p := ⟨r, _, none⟩) jl).trans j2; have zx0 := (hSw.cell (p := ⟨b, _, none⟩) hb).trans x0; have zx1 := (hSw.cell (p := ⟨b, _, none⟩) hb).trans x1; have zx2 := (hSw.cell (p := ⟨b, _, none⟩) hb).trans x2; have zx3 := (hSw.cell (p := ⟨b, _, none⟩) hb).trans x3; have zx4 := (hSw.cell (p := ⟨b, _, none⟩) hb).trans x4; have zx5 := (hSw.cell (p := ⟨b, _, none⟩) hb).trans x5; have zx6 := (hSw.cell (p := ⟨b, _, none⟩) hb).trans x6; have zx7 := (hSw.cell (p := ⟨b, _, none⟩) hb).trans x7; have zx8 := (hSw.cell (p := ⟨b, _, none⟩) hb).trans x8; have zx9 := (hSw.cell (p := ⟨b, _, none⟩) hb).trans x9; have zx10 := (hSw.cell (p := ⟨b, _, none⟩) hb).trans x10; have zy0 := (hSw.cell (p := ⟨b', _, none⟩) hb').trans y0; have zy1 := (hSw.cell (p := ⟨b', _, none⟩) hb').trans y1; have zy2 := (hSw.cell (p := ⟨b', _, none⟩) hb').trans y2; have zy3 := (hSw.cell (p := ⟨b', _, none⟩) hb').trans y3; have zy4 := (hSw.cell (p := ⟨b', _, none⟩) hb').trans y4; have zy5 := (hSw.cell (p := ⟨b', _, none⟩) hb').trans y5; have zy6 := (hSw.cell (p := ⟨b', _, none⟩) hb').trans y6; have zy7 := (hSw.cell (p := ⟨b', _, none⟩) hb').trans y7; have zy8 := (hSw.cell (p := ⟨b', _, none⟩) hb').trans y8; have zy9 := (hSw.cell (p := ⟨b', _, none⟩) hb').trans y9; have zy10 := (hSw.cell (p := ⟨b', _, none⟩) hb').trans y10; go_simp; try with_reducible rfl
          simp only [Act.put, List.getElem_toArray, List.getElem_cons_zero, List.setIfInBounds_toArray, List.set_cons_zero, List.set_cons_succ]
          refine wpAnyN_take (i := 1) (v := ?v12) rfl (by kernel_rfl) (by kernel_rfl) (by kernel_rfl) (by kernel_rfl) (fun _ _ _ h => h) (Or.inl ⟨by rfl, ?hy12⟩) (by assumption) ?_
          case hy12 => intro w hSw; have zi0 := (hSw.cell (p := ⟨q, _, none⟩) il).trans i0; have zi2 := (hSw.cell (p := ⟨q, _, none⟩) il).trans i2; have zj0 := (hSw.cell (p := ⟨r, _, none⟩) jl).trans j0; have zj2 := (hSw.cell (p := ⟨r, _, none⟩) jl).trans j2; have zx0 := (hSw.cell (p := ⟨b, _, none⟩) hb).trans x0; have zx1 := (hSw.cell (p := ⟨b, _, none⟩) hb).trans x1; have zx2 := (hSw.cell (p := ⟨b, _, none⟩) hb).trans x2; have zx3 := (hSw.cell (p := ⟨b, _, none⟩) hb).trans x3; have zx4 := (hSw.cell (p := ⟨b, _, none⟩) hb).trans x4; have zx5 := (hSw.cell (p := ⟨b, _, none⟩) hb).trans x5; have zx6 := (hSw.cell (p := ⟨b, _, none⟩) hb).trans x6; have zx7 := (hSw.cell (p := ⟨b, _, none⟩) hb).trans x7; have zx8 := (hSw.cell (p := ⟨b, _, none⟩) hb).trans x8; have zx9 := (hSw.cell (p := ⟨b, _, none⟩) hb).trans x9; have zx10 := (hSw.cell (p := ⟨b, _, none⟩) hb).trans x10; have zy0 := (hSw.cell (p := ⟨b', _, none⟩) hb').trans y0; have zy1 := (hSw.cell (p := ⟨b', _, none⟩) hb').trans y1; have zy2 := (hSw.cell (p := ⟨b', _, none⟩) hb').trans y2; have zy3 := (hSw.cell (p := ⟨b', _, none⟩) hb').trans y3; have zy4 := (hSw.cell (p := ⟨b', _, none⟩) hb').trans y4; have zy5 := (hSw.cell (p := ⟨b', _, none⟩) hb').trans y5; have zy6 := (hSw.cell (p := ⟨b', _, none⟩) hb').trans y6; have zy7 := (hSw.cell (p := ⟨b', _, none⟩) hb').trans y7; have zy8 := (hSw.cell (p := ⟨b', _, none⟩) hb').trans y8; have zy9 := (hSw.cell (p := ⟨b', _, none⟩) hb').trans y9; have zy10 := (hSw.cell (p := ⟨b', _, none⟩) hb').trans y10; go_simp; try with_reducible rfl
          simp only [Act.put, List.getElem_toArray, List.getElem_cons_zero, List.getElem_cons_succ, List.setIfInBounds_toArray, List.set_cons_zero, List.set_cons_succ]
          refine wpAnyN_take (i := 2) (v := ?v13) rfl (by kernel_rfl) (by kernel_rfl) (by kernel_rfl) (by kernel_rfl) (fun _ _ _ h => h) (Or.inl ⟨by rfl, ?hy13⟩) (by assumption) ?_
          case hy13 => intro w hSw; have zi0 := (hSw.cell (p := ⟨q, _, none⟩) il).trans i0; have zi2 := (hSw.cell (p := ⟨q, _, none⟩) il).trans i2; have zj0 := (hSw.cell (p := ⟨r, _, none⟩) jl).trans j0; have zj2 := (hSw.cell (p := ⟨r, _, none⟩) jl).trans j2; have zx0 := (hSw.cell (p := ⟨b, _, none⟩) hb).trans x0; have zx1 := (hSw.cell (p := ⟨b, _, none⟩) hb).trans x1; have zx2 := (hSw.cell (p := ⟨b, _, none⟩) hb).trans x2; have zx3 := (hSw.cell (p := ⟨b, _, none⟩) hb).trans x3; have zx4 := (hSw.cell (p := ⟨b, _, none⟩) hb).trans x4; have zx5 := (hSw.cell (p := ⟨b, _, none⟩) hb).trans x5; have zx6 := (hSw.cell (p := ⟨b, _, none⟩) hb).trans x6; have zx7 := (hSw.cell (p := ⟨b, _, none⟩) hb).trans x7; have zx8 := (hSw.cell (p := ⟨b, _, none⟩) hb).trans x8; have zx9 := (hSw.cell (p := ⟨b, _, none⟩) hb).trans x9; have zx10 := (hSw.cell (p := ⟨b, _, none⟩) hb).trans x10; have zy0 := (hSw.cell (p := ⟨b', _, none⟩) hb').trans y0; have zy1 := (hSw.cell (p := ⟨b', _, none⟩) hb').trans y1; have zy2 := (hSw.cell (p := ⟨b', _, none⟩) hb').trans y2; have zy3 := (hSw.cell (p := ⟨b', _, none⟩) hb').trans y3; have zy4 := (hSw.cell (p := ⟨b', _, none⟩) hb').trans y4; have zy5 := (hSw.cell (p := ⟨b', _, none⟩) hb').trans y5; have zy6 := (hSw.cell (p := ⟨b', _, none⟩) hb').trans y6; have zy7 := (hSw.cell (p := ⟨b', _, none⟩) hb').trans y7; have zy8 := (hSw.cell (p := ⟨b', _, none⟩) hb').trans y8; have zy9 := (hSw.cell (p := ⟨b', _, none⟩) hb').trans y9; have zy10 := (hSw.cell (p := ⟨b', _, none⟩) hb').trans y10; go_simp; try with_reducible rfl
          simp only [Act.put, List.getElem_toArray, List.getElem_cons_zero, List.getElem_cons_succ, List.setIfInBounds_toArray, List.set_cons_zero, List.set_cons_succ]
          refine wpAnyN_take (i := 3) (v := ?v14) rfl (by kernel_rfl) (by kernel_rfl) (by kernel_rfl) (by kernel_rfl) (fun _ _ _ h => h) (Or.inl ⟨by rfl, ?hy14⟩) (by assumption) ?_
          case hy14 => intro w hSw; have zi0 := (hSw.cell (p := ⟨q, _, none⟩) il).trans i0; have zi2 := (hSw.cell (p := ⟨q, _, none⟩) il).trans i2; have zj0 := (hSw.cell (p := ⟨r, _, none⟩) jl).trans j0; have zj2 := (hSw.cell (p := ⟨r, _, none⟩) jl).trans j2; have zx0 := (hSw.cell (p := ⟨b, _, none⟩) hb).trans x0; have zx1 := (hSw.cell (p := ⟨b, _, none⟩) hb).trans x1; have zx2 := (hSw.cell (p := ⟨b, _, none⟩) hb).trans x2; have zx3 := (hSw.cell (p := ⟨b, _, none⟩) hb).trans x3; have zx4 := (hSw.cell (p := ⟨b, _, none⟩) hb).trans x4; have zx5 := (hSw.cell (p := ⟨b, _, none⟩) hb).trans x5; have zx6 := (hSw.cell (p := ⟨b, _, none⟩) hb).trans x6; have zx7 := (hSw.cell (p := ⟨b, _, none⟩) hb).trans x7; have zx8 := (hSw.cell (p := ⟨b, _, none⟩) hb).trans x8; have zx9 := (hSw.cell (p := ⟨b, _, none⟩) hb).trans x9; have zx10 := (hSw.cell (p := ⟨b, _, none⟩) hb).trans x10; have zy0 := (hSw.cell (p := ⟨b', _, none⟩) hb').trans y0; have zy1 := (hSw.cell (p := ⟨b', _, none⟩) hb').trans y1; have zy2 := (hSw.cell (p := ⟨b', _, none⟩) hb').trans y2; have zy3 := (hSw.cell (p := ⟨b', _, none⟩) hb').trans y3; have zy4 := (hSw.cell (p := ⟨b', _, none⟩) hb').trans y4; have zy5 := (hSw.cell (p := ⟨b', _, none⟩) hb').trans y5; have zy6 := (hSw.cell (p := ⟨b', _, none⟩) hb').trans y6; have zy7 := (hSw.cell (p := ⟨b', _, none⟩) hb').trans y7; have zy8 := (hSw.cell (p := ⟨b', _, none⟩) hb').trans y8; have zy9 := (hSw.cell (p := ⟨b', _, none⟩) hb').trans y9; have zy10 := (hSw.cell (p := ⟨b', _, none⟩) hb').trans y10; go_simp; try with_reducible rfl
          simp only [Act.put, List.getElem_toArray, List.getElem_cons_zero, List.getElem_cons_succ, List.setIfInBounds_toArray, List.set_cons_zero, List.set_cons_succ]
          refine wpAnyN_take (i := 4) (v := ?v15) rfl (by kernel_rfl) (by kernel_rfl) (by kernel_rfl) (by kernel_rfl) (fun _ _ _ h => h) (Or.inl ⟨by rfl, ?hy15⟩) (by assumption) ?_
          case hy15 => intro w hSw; have zi0 := (hSw.cell (p := ⟨q, _, none⟩) il).trans i0; have zi2 := (hSw.cell (p := ⟨q, _, none⟩) il).trans i2; have zj0 := (hSw.cell (p := ⟨r, _, none⟩) jl).trans j0; have zj2 := (hSw.cell (p := ⟨r, _, none⟩) jl).trans j2; have zx0 := (hSw.cell (p := ⟨b, _, none⟩) hb).trans x0; have zx1 := (hSw.cell (p := ⟨b, _, none⟩) hb).trans x1; have zx2 := (hSw.cell (p := ⟨b, _, none⟩) hb).trans x2; have zx3 := (hSw.cell (p := ⟨b, _, none⟩) hb).trans x3; have zx4 := (hSw.cell (p := ⟨b, _, none⟩) hb).trans x4; have zx5 := (hSw.cell (p := ⟨b, _, none⟩) hb).trans x5; have zx6 := (hSw.cell (p := ⟨b, _, none⟩) hb).trans x6; have zx7 := (hSw.cell (p := ⟨b, _, none⟩) hb).trans x7; have zx8 := (hSw.cell (p := ⟨b, _, none⟩) hb).trans x8; have zx9 := (hSw.cell (p := ⟨b, _, none⟩) hb).trans x9; have zx10 := (hSw.cell (p := ⟨b, _, none⟩) hb).trans x10; have zy0 := (hSw.cell (p := ⟨b', _, none⟩) hb').trans y0; have zy1 := (hSw.cell (p := ⟨b', _, none⟩) hb').trans y1; have zy2 := (hSw.cell (p := ⟨b', _, none⟩) hb').trans y2; have zy3 := (hSw.cell (p := ⟨b', _, none⟩) hb').trans y3; have zy4 := (hSw.cell (p := ⟨b', _, none⟩) hb').trans y4; have zy5 := (hSw.cell (p := ⟨b', _, none⟩) hb').trans y5; have zy6 := (hSw.cell (p := ⟨b', _, none⟩) hb').trans y6; have zy7 := (hSw.cell (p := ⟨b', _, none⟩) hb').trans y7; have zy8 := (hSw.cell (p := ⟨b', _, none⟩) hb').trans y8; have zy9 := (hSw.cell (p := ⟨b', _, none⟩) hb').trans y9; have zy10 := (hSw.cell (p := ⟨b', _, none⟩) hb').trans y10; go_simp; try with_reducible rfl
          simp only [Act.put, List.getElem_toArray, List.getElem_cons_zero, List.getElem_cons_succ, List.setIfInBounds_toArray, List.set_cons_zero, List.set_cons_succ]
          refine wpAnyN_take (i := 5) (v := ?v16) rfl (by kernel_rfl) (by kernel_rfl) (by kernel_rfl) (by kernel_rfl) (fun _ _ _ h => h) (Or.inl ⟨by rfl, ?hy16⟩) (by assumption) ?_
          case hy16 => intro w hSw; have zi0 := (hSw.cell (p := ⟨q, _, none⟩) il).trans i0; have zi2 := (hSw.cell (p := ⟨q, _, none⟩) il).trans i2; have zj0 := (hSw.cell (p := ⟨r, _, none⟩) jl).trans j0; have zj2 := (hSw.cell (p := ⟨r, _, none⟩) jl).trans j2; have zx0 := (hSw.cell (p := ⟨b, _, none⟩) hb).trans x0; have zx1 := (hSw.cell (p := ⟨b, _, none⟩) hb).trans x1; have zx2 := (hSw.cell (p := ⟨b, _, none⟩) hb).trans x2; have zx3 := (hSw.cell (p := ⟨b, _, none⟩) hb).trans x3; have zx4 := (hSw.cell (p := ⟨b, _, none⟩) hb).trans x4; have zx5 := (hSw.cell (p := ⟨b, _, none⟩) hb).trans x5; have zx6 := (hSw.cell (p := ⟨b, _, none⟩) hb).trans x6; have zx7 := (hSw.cell (p := ⟨b, _, none⟩) hb).trans x7; have zx8 := (hSw.cell (p := ⟨b, _, none⟩) hb).trans x8; have zx9 := (hSw.cell (p := ⟨b, _, none⟩) hb).trans x9; have zx10 := (hSw.cell (p := ⟨b, _, none⟩) hb).trans x10; have zy0 := (hSw.cell (p := ⟨b', _, none⟩) hb').trans y0; have zy1 := (hSw.cell (p := ⟨b', _, none⟩) hb').trans y1; have zy2 := (hSw.cell (p := ⟨b', _, none⟩) hb').trans y2; have zy3 := (hSw.cell (p := ⟨b', _, none⟩) hb').trans y3; have zy4 := (hSw.cell (p := ⟨b', _, none⟩) hb').trans y4; have zy5 := (hSw.cell (p := ⟨b', _, none⟩) hb').trans y5; have zy6 := (hSw.cell (p := ⟨b', _, none⟩) hb').trans y6; have zy7 := (hSw.cell (p := ⟨b', _, none⟩) hb').trans y7; have zy8 := (hSw.cell (p := ⟨b', _, none⟩) hb').trans y8; have zy9 := (hSw.cell (p := ⟨b', _, none⟩) hb').trans y9; have zy10 := (hSw.cell (p := ⟨b', _, none⟩) hb').trans y10; go_simp; try with_reducible rfl
          simp only [Act.put, List.getElem_toArray, List.getElem_cons_zero, List.getElem_cons_succ, List.setIfInBounds_toArray, List.set_cons_zero, List.set_cons_succ]
          refine wpAnyN_take (i := 6) (v := ?v17) rfl (by kernel_rfl) (by kernel_rfl) (by kernel_rfl) (by kernel_rfl) (fun _ _ _ h => h) (Or.inl ⟨by rfl, ?hy17⟩) (by assumption) ?_
          case hy17 => intro w hSw; have zi0 := (hSw.cell (p := ⟨q, _, none⟩) il).trans i0; have zi2 := (hSw.cell (p := ⟨q, _, none⟩) il).trans i2; have zj0 := (hSw.cell (p := ⟨r, _, none⟩) jl).trans j0; have zj2 := (hSw.cell (p := ⟨r, _, none⟩) jl).trans j2; have zx0 := (hSw.cell (p := ⟨b, _, none⟩) hb).trans x0; have zx1 := (hSw.cell (p := ⟨b, _, none⟩) hb).trans x1; have zx2 := (hSw.cell (p := ⟨b, _, none⟩) hb).trans x2; have zx3 := (hSw.cell (p := ⟨b, _, none⟩) hb).trans x3; have zx4 := (hSw.cell (p := ⟨b, _, none⟩) hb).trans x4; have zx5 := (hSw.cell (p := ⟨b, _, none⟩) hb).trans x5; have zx6 := (hSw.cell (p := ⟨b, _, none⟩) hb).trans x6; have zx7 := (hSw.cell (p := ⟨b, _, none⟩) hb).trans x7; have zx8 := (hSw.cell (p := ⟨b, _, none⟩) hb).trans x8; have zx9 := (hSw.cell (p := ⟨b, _, none⟩) hb).trans x9; have zx10 := (hSw.cell (p := ⟨b, _, none⟩) hb).trans x10; have zy0 := (hSw.cell (p := ⟨b', _, none⟩) hb').trans y0; have zy1 := (hSw.cell (p := ⟨b', _, none⟩) hb').trans y1; have zy2 := (hSw.cell (p := ⟨b', _, none⟩) hb').trans y2; have zy3 := (hSw.cell (p := ⟨b', _, none⟩) hb').trans y3; have zy4 := (hSw.cell (p := ⟨b', _, none⟩) hb').trans y4; have zy5 := (hSw.cell (p := ⟨b', _, none⟩) hb').trans y5; have zy6 := (hSw.cell (p := ⟨b', _, none⟩) hb').trans y6; have zy7 := (hSw.cell (p := ⟨b', _, none⟩) hb').trans y7; have zy8 := (hSw.cell (p := ⟨b', _, none⟩) hb').trans y8; have zy9 := (hSw.cell (p := ⟨b', _, none⟩) hb').trans y9; have zy10 := (hSw.cell (p := ⟨b', _, none⟩) hb').trans y10; go_simp; try with_reducible rfl
          simp only [Act.put, List.getElem_toArray, List.getElem_cons_zero, List.getElem_cons_succ, List.setIfInBounds_toArray, List.set_cons_zero, List.set_cons_succ]
          refine wpAnyN_take (i := 7) (v := ?v18) rfl (by kernel_rfl) (by kernel_rfl) (by kernel_rfl) (by kernel_rfl) (fun _ _ _ h => h) (Or.inl ⟨by rfl, ?hy18⟩) (by assumption) ?_
          case hy18 => intro w hSw; have zi0 := (hSw.cell (p := ⟨q, _, none⟩) il).trans i0; have zi2 := (hSw.cell (p := ⟨q, _, none⟩) il).trans i2; have zj0 := (hSw.cell (p := ⟨r, _, none⟩) jl).trans j0; have zj2 := (hSw.cell (p := ⟨r, _, none⟩) jl).trans j2; have zx0 := (hSw.cell (p := ⟨b, _, none⟩) hb).trans x0; have zx1 := (hSw.cell (p := ⟨b, _, none⟩) hb).trans x1; have zx2 := (hSw.cell (p := ⟨b, _, none⟩) hb).trans x2; have zx3 := (hSw.cell (p := ⟨b, _, none⟩) hb).trans x3; have zx4 := (hSw.cell (p := ⟨b, _, none⟩) hb).trans x4; have zx5 := (hSw.cell (p := ⟨b, _, none⟩) hb).trans x5; have zx6 := (hSw.cell (p := ⟨b, _, none⟩) hb).trans x6; have zx7 := (hSw.cell (p := ⟨b, _, none⟩) hb).trans x7; have zx8 := (hSw.cell (p := ⟨b, _, none⟩) hb).trans x8; have zx9 := (hSw.cell (p := ⟨b, _, none⟩) hb).trans x9; have zx10 := (hSw.cell (p := ⟨b, _, none⟩) hb).trans x10; have zy0 := (hSw.cell (p := ⟨b', _, none⟩) hb').trans y0; have zy1 := (hSw.cell (p := ⟨b', _, none⟩) hb').trans y1; have zy2 := (hSw.cell (p := ⟨b', _, none⟩) hb').trans y2; have zy3 := (hSw.cell (p := ⟨b', _, none⟩) hb').trans y3; have zy4 := (hSw.cell (p := ⟨b', _, none⟩) hb').trans y4; have zy5 := (hSw.cell (p := ⟨b', _, none⟩) hb').trans y5; have zy6 := (hSw.cell (p := ⟨b', _, none⟩) hb').trans y6; have zy7 := (hSw.cell (p := ⟨b', _, none⟩) hb').trans y7; have zy8 := (hSw.cell (p := ⟨b', _, none⟩) hb').trans y8; have zy9 := (hSw.cell (p := ⟨b', _, none⟩) hb').trans y9; have zy10 := (hSw.cell (p := ⟨b', _, none⟩) hb').trans y10; go_simp; try with_reducible rfl
          simp only [Act.put, List.getElem_toArray, List.getElem_cons_zero, List.getElem_cons_succ, List.setIfInBounds_toArray, List.set_cons_zero, List.set_cons_succ]
          refine wpAnyN_take (i := 8) (v := ?v19) rfl (by kernel_rfl) (by kernel_rfl) (by kernel_rfl) (by kernel_rfl) (fun _ _ _ h => h) (Or.inl ⟨by rfl, ?hy19⟩) (by assumption) ?_
          case hy19 => intro w hSw; have zi0 := (hSw.cell (p := ⟨q, _, none⟩) il).trans i0; have zi2 := (hSw.cell (p := ⟨q, _, none⟩) il).trans i2; have zj0 := (hSw.cell (p := ⟨r, _, none⟩) jl).trans j0; have zj2 := (hSw.cell (p := ⟨r, _, none⟩) jl).trans j2; have zx0 := (hSw.cell (p := ⟨b, _, none⟩) hb).trans x0; have zx1 := (hSw.cell (p := ⟨b, _, none⟩) hb).trans x1; have zx2 := (hSw.cell (p := ⟨b, _, none⟩) hb).trans x2; have zx3 := (hSw.cell (p := ⟨b, _, none⟩) hb).trans x3; have zx4 := (hSw.cell (p := ⟨b, _, none⟩) hb).trans x4; have zx5 := (hSw.cell (p := ⟨b, _, none⟩) hb).trans x5; have zx6 := (hSw.cell (p := ⟨b, _, none⟩) hb).trans x6; have zx7 := (hSw.cell (p := ⟨b, _, none⟩) hb).trans x7; have zx8 := (hSw.cell (p := ⟨b, _, none⟩) hb).trans x8; have zx9 := (hSw.cell (p := ⟨b, _, none⟩) hb).trans x9; have zx10 := (hSw.cell (p := ⟨b, _, none⟩) hb).trans x10; have zy0 := (hSw.cell (p := ⟨b', _, none⟩) hb').trans y0; have zy1 := (hSw.cell (p := ⟨b', _, none⟩) hb').trans y1; have zy2 := (hSw.cell (p := ⟨b', _, none⟩) hb').trans y2; have zy3 := (hSw.cell (p := ⟨b', _, none⟩) hb').trans y3; have zy4 := (hSw.cell (p := ⟨b', _, none⟩) hb').trans y4; have zy5 := (hSw.cell (p := ⟨b', _, none⟩) hb').trans y5; have zy6 := (hSw.cell (p := ⟨b', _, none⟩) hb').trans y6; have zy7 := (hSw.cell (p := ⟨b', _, none⟩) hb').trans y7; have zy8 := (hSw.cell (p := ⟨b', _, none⟩) hb').trans y8; have zy9 := (hSw.cell (p := ⟨b', _, none⟩) hb').trans y9; have zy10 := (hSw.cell (p := ⟨b', _, none⟩) hb').trans y10; go_simp; try with_reducible rfl
          simp only [Act.put, List.getElem_toArray, List.getElem_cons_zero, List.getElem_cons_succ, List.setIfInBounds_toArray, List.set_cons_zero, List.set_cons_succ]
          refine wpAnyN_take (i := 9) (v := ?v20) rfl (by kernel_rfl) (by kernel_rfl) (by kernel_rfl) (by kernel_rfl) (fun _ _ _ h => h) (Or.inl ⟨by rfl, ?hy20⟩) (by assumption) ?_
          case hy20 => intro w hSw; have zi0 := (hSw.cell (p := ⟨q, _, none⟩) il).trans i0; have zi2 := (hSw.cell (p := ⟨q, _, none⟩) il).trans i2; have zj0 := (hSw.cell (p := ⟨r, _, none⟩) jl).trans j0; have zj2 := (hSw.cell (p := ⟨r, _, none⟩) jl).trans j2; have zx0 := (hSw.cell (p := ⟨b, _, none⟩) hb).trans x0; have zx1 := (hSw.cell (p := ⟨b, _, none⟩) hb).trans x1; have zx2 := (hSw.cell (p := ⟨b, _, none⟩) hb).trans x2; have zx3 := (hSw.cell (p := ⟨b, _, none⟩) hb).trans x3; have zx4 := (hSw.cell (p := ⟨b, _, none⟩) hb).trans x4; have zx5 := (hSw.cell (p := ⟨b, _, none⟩) hb).trans x5; have zx6 := (hSw.cell (p := ⟨b, _, none⟩) hb).trans x6; have zx7 := (hSw.cell (p := ⟨b, _, none⟩) hb).trans x7; have zx8 := (hSw.cell (p := ⟨b, _, none⟩) hb).trans x8; have zx9 := (hSw.cell (p := ⟨b, _, none⟩) hb).trans x9; have zx10 := (hSw.cell (p := ⟨b, _, none⟩) hb).trans x10; have zy0 := (hSw.cell (p := ⟨b', _, none⟩) hb').trans y0; have zy1 := (hSw.cell (p := ⟨b', _, none⟩) hb').trans y1; have zy2 := (hSw.cell (p := ⟨b', _, none⟩) hb').trans y2; have zy3 := (hSw.cell (p := ⟨b', _, none⟩) hb').trans y3; have zy4 := (hSw.cell (p := ⟨b', _, none⟩) hb').trans y4; have zy5 := (hSw.cell (p := ⟨b', _, none⟩) hb').trans y5; have zy6 := (hSw.cell (p := ⟨b', _, none⟩) hb').trans y6; have zy7 := (hSw.cell (p := ⟨b', _, none⟩) hb').trans y7; have zy8 := (hSw.cell (p := ⟨b', _, none⟩) hb').trans y8; have zy9 := (hSw.cell (p := ⟨b', _, none⟩) hb').trans y9; have zy10 := (hSw.cell (p := ⟨b', _, none⟩) hb').trans y10; go_simp; try with_reducible rfl
          simp only [Act.put, List.getElem_toArray, List.getElem_cons_zero, List.getElem_cons_succ, List.setIfInBounds_toArray, List.set_cons_zero, List.set_cons_succ]
          refine wpAnyN_one (i := 10) (by kernel_rfl) rfl (fun K hK => ?_)
          simp only [List.getElem_toArray, List.getElem_cons_zero, List.getElem_cons_succ]
          go_simp
          refine (sameChoice_any x X0 (HCA.out.next HD.out) (HC2.out.next HD.out) (HC1.out.next HD.out) (HC3.out.next HD.out) hyl.1 hyl.2).mono ?_
          rintro e w9 ⟨rfl, h9⟩
          have HB9 := Lib.hid (bNext HB2.out h9)
          refine hK _ _ (fun _ => bNext hS0 h9) ?_
          (try simp only [Act.put, List.setIfInBounds_toArray, List.set_cons_zero, List.set_cons_succ])
          refine wpAnyN_one (i := 11) (by kernel_rfl) rfl (fun K hK => ?_)
          simp only [List.getElem_toArray, List.getElem_cons_zero, List.getElem_cons_succ]
          go_simp
          refine hK _ _ (fun _ => bNext hS0 h9) ?_
          (try simp only [Act.put, List.setIfInBounds_toArray, List.set_cons_zero, List.set_cons_succ])
          refine wpAnyN_done (by kernel_rfl) ?_ _
          clear h9
          clear x0 x1 x2 x3 x4 x5 x6 x7 x8 x9 x10 y0 y1 y2 y3 y4 y5 y6 y7 y8 y9 y10 i0 i2 j0 j2 il jl
          go_wp2_with fail
          exact ⟨⟨k2 + 1, by omega, by go_num, HB9⟩, by simp [intOf]; omega⟩
        · go_wp2_with fail
          go_ret
          exact ⟨rfl, bNext HB.out HB1.out⟩
end Go.Proofs.Ytpkpffnabcgcbaa
