/-
  Rows of integers that are read; the walk of SameChoice at equal choice points.
-/
import Derived.Test.YtpkpffnabcgcbaaFp
import Derived.Test.YtpkpffnabcgcbaaFj
namespace Go.Proofs.Ytpkpffnabcgcbaa
open Go.RowKit

def IntsAt (w : World) (A : Option Addr) (l : List Int) : Prop := 0 < l.length → ∃ b off, A = some ⟨b, off, none⟩ ∧ b < w.heap.size ∧ ∀ i x, l[i]? = some x → w.cell? ⟨b, off + i, none⟩ = some (.int .i64 x)
theorem IntsAt.next {w w' : World} {A : Option Addr} {l : List Int} (h : IntsAt w A l) (hb : Below w.heap.size w w') : IntsAt w' A l := fun hn => by
  obtain ⟨b, off, e, hlt, hc⟩ := h hn
  exact ⟨b, off, e, Nat.lt_of_lt_of_le hlt hb.size, fun i x hx => (hb.cell (p := ⟨b, _, none⟩) hlt).trans (hc i x hx)⟩
theorem own_intsAt {w : World} {B c : Nat} {A : Option Addr} {l : List Int} (h : w.ownsRow B 2 1 (.slice A l.length c) l.length (iCs l)) : IntsAt w A l := fun hn => by
  obtain ⟨g, cap, e⟩ := own_head h hn
  injection e with e1 _ e2
  subst e1 e2
  refine ⟨g, 0, rfl, (h.lt g rfl).2, fun i x hx => ?_⟩
  rw [Nat.zero_add]
  exact own_cell h (by unfold iCs; rw [List.getElem?_map, hx]; rfl)
set_option maxHeartbeats 8000000 in
theorem sameChoice_any {A0 A1 B0 B1 : Option Addr} {c0 c1 d0 d1 : Nat} (x : Ch) (w : World) (ha0 : CellsAt w A0 x.args) (ha1 : CellsAt w A1 x.args) (hb0 : IntsAt w B0 x.alts) (hb1 : IntsAt w B1 x.alts) (hna : x.args.length ≤ 8796093022208) (hnb : x.alts.length ≤ 17592186044416) :
    Calls Try.prog 15 #[.agg #[.int .i64 x.kind, .slice A0 x.args.length c0, .int .i64 x.env, .int .i64 x.id, .int .i64 x.pc, .int .i64 x.cut, .int .i64 x.mark, .int .i64 x.top, .int .i64 x.envs, .slice B0 x.alts.length d0, .int .i64 x.data], .agg #[.int .i64 x.kind, .slice A1 x.args.length c1, .int .i64 x.env, .int .i64 x.id, .int .i64 x.pc, .int .i64 x.cut, .int .i64 x.mark, .int .i64 x.top, .int .i64 x.envs, .slice B1 x.alts.length d1, .int .i64 x.data]] w fun e w' => e = .returned (.bool true) ∧ Below w.heap.size w w' := by
  obtain ⟨W, HW⟩ : ∃ X, Hid (X = (w.alloc (.cells #[.int .i64 x.kind, .slice A0 x.args.length c0, .int .i64 x.env, .int .i64 x.id, .int .i64 x.pc, .int .i64 x.cut, .int .i64 x.mark, .int .i64 x.top, .int .i64 x.envs, .slice B0 x.alts.length d0, .int .i64 x.data] 29)).alloc (.cells #[.int .i64 x.kind, .slice A1 x.args.length c1, .int .i64 x.env, .int .i64 x.id, .int .i64 x.pc, .int .i64 x.cut, .int .i64 x.mark, .int .i64 x.top, .int .i64 x.envs, .slice B1 x.alts.length d1, .int .i64 x.data] 29)) := ⟨_, rfl⟩
  have hbW : Below w.heap.size w W := by rw [HW.out]; exact (bAlloc w _).alloc (by simp) _
  have hk0 : Blk W w.heap.size 29 #[.int .i64 x.kind, .slice A0 x.args.length c0, .int .i64 x.env, .int .i64 x.id, .int .i64 x.pc, .int .i64 x.cut, .int .i64 x.mark, .int .i64 x.top, .int .i64 x.envs, .slice B0 x.alts.length d0, .int .i64 x.data] := by rw [HW.out]; exact (Blk.new w _ _).alloc _
  have hk1 : Blk W (w.heap.size + 1) 29 #[.int .i64 x.kind, .slice A1 x.args.length c1, .int .i64 x.env, .int .i64 x.id, .int .i64 x.pc, .int .i64 x.cut, .int .i64 x.mark, .int .i64 x.top, .int .i64 x.envs, .slice B1 x.alts.length d1, .int .i64 x.data] := by
    have h := Blk.new (w.alloc (.cells #[.int .i64 x.kind, .slice A0 x.args.length c0, .int .i64 x.env, .int .i64 x.id, .int .i64 x.pc, .int .i64 x.cut, .int .i64 x.mark, .int .i64 x.top, .int .i64 x.envs, .slice B0 x.alts.length d0, .int .i64 x.data] 29)) 29 #[.int .i64 x.kind, .slice A1 x.args.length c1, .int .i64 x.env, .int .i64 x.id, .int .i64 x.pc, .int .i64 x.cut, .int .i64 x.mark, .int .i64 x.top, .int .i64 x.envs, .slice B1 x.alts.length d1, .int .i64 x.data]
    rw [World.size_alloc] at h
    rw [HW.out]; exact h
  have HA0 := Lib.hid (ha0.next hbW)
  have HA1 := Lib.hid (ha1.next hbW)
  have HI0 := Lib.hid (hb0.next hbW)
  have HI1 := Lib.hid (hb1.next hbW)
  have HB := Lib.hid hbW
  have HK0 := Lib.hid hk0
  have HK1 := Lib.hid hk1
  have y0 := hk0.cell 0
  have y1 := hk0.cell 1
  have y2 := hk0.cell 2
  have y3 := hk0.cell 3
  have y4 := hk0.cell 4
  have y5 := hk0.cell 5
  have y6 := hk0.cell 6
  have y7 := hk0.cell 7
  have y8 := hk0.cell 8
  have y9 := hk0.cell 9
  have y10 := hk0.cell 10
  simp at y0 y1 y2 y3 y4 y5 y6 y7 y8 y9 y10
  have z0 := hk1.cell 0
  have z1 := hk1.cell 1
  have z2 := hk1.cell 2
  have z3 := hk1.cell 3
  have z4 := hk1.cell 4
  have z5 := hk1.cell 5
  have z6 := hk1.cell 6
  have z7 := hk1.cell 7
  have z8 := hk1.cell 8
  have z9 := hk1.cell 9
  have z10 := hk1.cell 10
  simp at z0 z1 z2 z3 z4 z5 z6 z7 z8 z9 z10
  clear ha0 ha1 hb0 hb1 hbW hk0 hk1
  go_enter Try.func15, Try.ntmps15
  go_upto_region 1 with fail
  rw [← HW.out]
  clear HW
  go_wp2_with fail
  go_loopw [5] (fun i wr => ∃ k : Nat, k ≤ x.alts.length ∧ i = .int .i64 (k : Int) ∧ Hid (Below W.heap.size W wr)) (fun i _ => x.alts.length - (intOf i).toNat)
  case atStart => exact ⟨0, by omega, rfl, Lib.hid (Below.refl _ _)⟩
  case round =>
    clear y0 z0 y1 z1 y2 z2 y3 z3 y4 z4 y5 z5 y6 z6 y7 z7 y8 z8 y9 z9 y10 z10
    obtain ⟨k, hk, rfl, HBr⟩ := hrel
    have hk0 := HK0.out.next HBr.out
    have hk1 := HK1.out.next HBr.out
    have y1 := hk0.cell 1
    have y9 := hk0.cell 9
    simp at y1 y9
    have z1 := hk1.cell 1
    have z9 := hk1.cell 9
    simp at z1 z9
    by_cases hlt : k < x.alts.length
    · obtain ⟨v, hx⟩ : ∃ v, x.alts[k]? = some v := ⟨_, List.getElem?_eq_getElem hlt⟩
      obtain ⟨b, off, hB0, hb, hc⟩ := (HI0.out.next HBr.out) (by omega)
      obtain ⟨b', off', hB1, hb', hc'⟩ := (HI1.out.next HBr.out) (by omega)
      subst hB0 hB1
      have u0 := hc k v hx
      have u1 := hc' k v hx
      clear hc hc'
      go_upto_region 6 with fail
      refine wp_region_N (fun w' => (Blk w' w.heap.size 29 #[.int .i64 x.kind, .slice A0 x.args.length c0, .int .i64 x.env, .int .i64 x.id, .int .i64 x.pc, .int .i64 x.cut, .int .i64 x.mark, .int .i64 x.top, .int .i64 x.envs, .slice (some ⟨b, off, none⟩) x.alts.length d0, .int .i64 x.data] ∧ Blk w' (w.heap.size + 1) 29 #[.int .i64 x.kind, .slice A1 x.args.length c1, .int .i64 x.env, .int .i64 x.id, .int .i64 x.pc, .int .i64 x.cut, .int .i64 x.mark, .int .i64 x.top, .int .i64 x.envs, .slice (some ⟨b', off', none⟩) x.alts.length d1, .int .i64 x.data]) ∧ w'.cell? ⟨b, off + k, none⟩ = some (.int .i64 v) ∧ w'.cell? ⟨b', off' + k, none⟩ = some (.int .i64 v)) (fun _ => true) (by kernel_rfl) ?_
      have hS0 : (fun w' => (Blk w' w.heap.size 29 #[.int .i64 x.kind, .slice A0 x.args.length c0, .int .i64 x.env, .int .i64 x.id, .int .i64 x.pc, .int .i64 x.cut, .int .i64 x.mark, .int .i64 x.top, .int .i64 x.envs, .slice (some ⟨b, off, none⟩) x.alts.length d0, .int .i64 x.data] ∧ Blk w' (w.heap.size + 1) 29 #[.int .i64 x.kind, .slice A1 x.args.length c1, .int .i64 x.env, .int .i64 x.id, .int .i64 x.pc, .int .i64 x.cut, .int .i64 x.mark, .int .i64 x.top, .int .i64 x.envs, .slice (some ⟨b', off', none⟩) x.alts.length d1, .int .i64 x.data]) ∧ w'.cell? ⟨b, off + k, none⟩ = some (.int .i64 v) ∧ w'.cell? ⟨b', off' + k, none⟩ = some (.int .i64 v)) wr.drew := ⟨⟨hk0, hk1⟩, u0, u1⟩
      refine wpAnyN_take (i := 0) (v := ?v1) rfl (by kernel_rfl) (by kernel_rfl) (by kernel_rfl) (by kernel_rfl) (fun _ _ _ h => h) (Or.inl ⟨by rfl, ?hy1⟩) (by assumption) ?_
      case hy1 => intro w hSw; obtain ⟨⟨s0, s1⟩, s2, s3⟩ := hSw; have e9 := s0.cell 9; have i9 := s1.cell 9; simp at e9 i9; go_simp; try with_reducible rfl
      simp only [Act.put, List.getElem_toArray, List.getElem_cons_zero, List.setIfInBounds_toArray, List.set_cons_zero, List.set_cons_succ]
      refine wpAnyN_take (i := 1) (v := ?v2) rfl (by kernel_rfl) (by kernel_rfl) (by kernel_rfl) (by kernel_rfl) (fun _ _ _ h => h) (Or.inl ⟨by rfl, ?hy2⟩) (by assumption) ?_
      case hy2 => intro w hSw; obtain ⟨⟨s0, s1⟩, s2, s3⟩ := hSw; have e9 := s0.cell 9; have i9 := s1.cell 9; simp at e9 i9; go_simp; try with_reducible rfl
      simp only [Act.put, List.getElem_toArray, List.getElem_cons_zero, List.getElem_cons_succ, List.setIfInBounds_toArray, List.set_cons_zero, List.set_cons_succ]
      refine wpAnyN_take (i := 2) (v := ?v3) rfl (by kernel_rfl) (by kernel_rfl) (by kernel_rfl) (by kernel_rfl) (fun _ _ _ h => h) (Or.inl ⟨by rfl, ?hy3⟩) (by assumption) ?_
      case hy3 => intro w hSw; obtain ⟨⟨s0, s1⟩, s2, s3⟩ := hSw; have e9 := s0.cell 9; have i9 := s1.cell 9; simp at e9 i9; go_simp; try with_reducible rfl
      simp only [Act.put, List.getElem_toArray, List.getElem_cons_zero, List.getElem_cons_succ, List.setIfInBounds_toArray, List.set_cons_zero, List.set_cons_succ]
      refine wpAnyN_take (i := 3) (v := ?v4) rfl (by kernel_rfl) (by kernel_rfl) (by kernel_rfl) (by kernel_rfl) (fun _ _ _ h => h) (Or.inl ⟨by rfl, ?hy4⟩) (by assumption) ?_
      case hy4 => intro w hSw; obtain ⟨⟨s0, s1⟩, s2, s3⟩ := hSw; have e9 := s0.cell 9; have i9 := s1.cell 9; simp at e9 i9; go_simp; try with_reducible rfl
      simp only [Act.put, List.getElem_toArray, List.getElem_cons_zero, List.getElem_cons_succ, List.setIfInBounds_toArray, List.set_cons_zero, List.set_cons_succ]
      refine wpAnyN_take (i := 4) (v := ?v5) rfl (by kernel_rfl) (by kernel_rfl) (by kernel_rfl) (by kernel_rfl) (fun _ _ _ h => h) (Or.inl ⟨by rfl, ?hy5⟩) (by assumption) ?_
      case hy5 => intro w hSw; obtain ⟨⟨s0, s1⟩, s2, s3⟩ := hSw; have e9 := s0.cell 9; have i9 := s1.cell 9; simp at e9 i9; go_simp; try with_reducible rfl
      simp only [Act.put, List.getElem_toArray, List.getElem_cons_zero, List.getElem_cons_succ, List.setIfInBounds_toArray, List.set_cons_zero, List.set_cons_succ]
      refine wpAnyN_take (i := 5) (v := ?v6) rfl (by kernel_rfl) (by kernel_rfl) (by kernel_rfl) (by kernel_rfl) (fun _ _ _ h => h) (Or.inl ⟨by rfl, ?hy6⟩) (by assumption) ?_
      case hy6 => intro w hSw; obtain ⟨⟨s0, s1⟩, s2, s3⟩ := hSw; have e9 := s0.cell 9; have i9 := s1.cell 9; simp at e9 i9; go_simp; try with_reducible rfl
      simp only [Act.put, List.getElem_toArray, List.getElem_cons_zero, List.getElem_cons_succ, List.setIfInBounds_toArray, List.set_cons_zero, List.set_cons_succ]
      refine wpAnyN_take (i := 6) (v := ?v7) rfl (by kernel_rfl) (by kernel_rfl) (by kernel_rfl) (by kernel_rfl) (fun _ _ _ h => h) (Or.inl ⟨by rfl, ?hy7⟩) (by assumption) ?_
      case hy7 => intro w hSw; obtain ⟨⟨s0, s1⟩, s2, s3⟩ := hSw; have e9 := s0.cell 9; have i9 := s1.cell 9; simp at e9 i9; go_simp; try with_reducible rfl
      simp only [Act.put, List.getElem_toArray, List.getElem_cons_zero, List.getElem_cons_succ, List.setIfInBounds_toArray, List.set_cons_zero, List.set_cons_succ]
      refine wpAnyN_take (i := 7) (v := ?v8) rfl (by kernel_rfl) (by kernel_rfl) (by kernel_rfl) (by kernel_rfl) (fun _ _ _ h => h) (Or.inl ⟨by rfl, ?hy8⟩) (by assumption) ?_
      case hy8 => intro w hSw; obtain ⟨⟨s0, s1⟩, s2, s3⟩ := hSw; have e9 := s0.cell 9; have i9 := s1.cell 9; simp at e9 i9; go_simp; try with_reducible rfl
      simp only [Act.put, List.getElem_toArray, List.getElem_cons_zero, List.getElem_cons_succ, List.setIfInBounds_toArray, List.set_cons_zero, List.set_cons_succ]
      refine wpAnyN_take (i := 8) (v := ?v9) rfl (by kernel_rfl) (by kernel_rfl) (by kernel_rfl) (by kernel_rfl) (fun _ _ _ h => h) (Or.inl ⟨by rfl, ?hy9⟩) (by assumption) ?_
      case hy9 => intro w hSw; obtain ⟨⟨s0, s1⟩, s2, s3⟩ := hSw; have e9 := s0.cell 9; have i9 := s1.cell 9; simp at e9 i9; go_simp; try with_reducible rfl
      simp only [Act.put, List.getElem_toArray, List.getElem_cons_zero, List.getElem_cons_succ, List.setIfInBounds_toArray, List.set_cons_zero, List.set_cons_succ]
      refine wpAnyN_take (i := 9) (v := ?v10) rfl (by kernel_rfl) (by kernel_rfl) (by kernel_rfl) (by kernel_rfl) (fun _ _ _ h => h) (Or.inl ⟨by rfl, ?hy10⟩) (by assumption) ?_
      case hy10 => intro w hSw; obtain ⟨⟨s0, s1⟩, s2, s3⟩ := hSw; have e9 := s0.cell 9; have i9 := s1.cell 9; simp at e9 i9; go_simp; try with_reducible rfl
      simp only [Act.put, List.getElem_toArray, List.getElem_cons_zero, List.getElem_cons_succ, List.setIfInBounds_toArray, List.set_cons_zero, List.set_cons_succ]
      refine wpAnyN_take (i := 10) (v := ?v11) rfl (by kernel_rfl) (by kernel_rfl) (by kernel_rfl) (by kernel_rfl) (fun _ _ _ h => h) (Or.inl ⟨by rfl, ?hy11⟩) (by assumption) ?_
      case hy11 => intro w hSw; obtain ⟨⟨s0, s1⟩, s2, s3⟩ := hSw; have e9 := s0.cell 9; have i9 := s1.cell 9; simp at e9 i9; go_simp; try with_reducible rfl
      simp only [Act.put, List.getElem_toArray, List.getElem_cons_zero, List.getElem_cons_succ, List.setIfInBounds_toArray, List.set_cons_zero, List.set_cons_succ]
      refine wpAnyN_done (by kernel_rfl) ?_ _
      clear u0 u1 y1 y9 z1 z9 hk0 hk1
      go_wp2_with fail
      exact ⟨⟨k + 1, by omega, by go_num, Lib.hid (bDrewN HBr.out 1)⟩, by simp [intOf]; omega⟩
    · have HC := Lib.hid (sameCells_any (c := c0) (c' := c1) x.args wr (HA0.out.next HBr.out) (HA1.out.next HBr.out) hna)
      go_wp2_with fail
      refine HC.out.mono ?_
      rintro e w1 ⟨rfl, hb1⟩
      have HB1 := Lib.hid (bNext (bNext HB.out HBr.out) hb1)
      clear hb1
      go_wp2_with fail
      go_ret
      exact ⟨rfl, HB1.out⟩
end Go.Proofs.Ytpkpffnabcgcbaa
