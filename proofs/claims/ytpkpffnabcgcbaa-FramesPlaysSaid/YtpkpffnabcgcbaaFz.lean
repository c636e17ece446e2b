/-
  The reference's Clone.
-/
import Derived.Test.YtpkpffnabcgcbaaFy
namespace Go.Proofs.Ytpkpffnabcgcbaa
open Go.RowKit

/-- stacks of fresh rows, as a value -/
structure StkV (w : World) (B : Nat) (s : St) (ve vc : Value) (ys : List Value) (cs : List (Value × Value)) : Prop where
  envs : w.ownsRow B 54 4 ve s.envs.length (eCs s.envs ys)
  chs : w.ownsRow B 29 11 vc s.chs.length (hCs s.chs cs)
  ylen : ys.length = s.envs.length
  clen : cs.length = s.chs.length
  yrow : ∀ (i : Nat) x v, s.envs[i]? = some x → ys[i]? = some v → w.ownsRow B 38 2 v x.y.length (cCs x.y)
  crow : ∀ (i : Nat) x v, s.chs[i]? = some x → cs[i]? = some v → w.ownsRow B 38 2 v.1 x.args.length (cCs x.args) ∧ w.ownsRow B 2 1 v.2 x.alts.length (iCs x.alts)
  nodup : (blks (ys ++ cs.map (·.1) ++ cs.map (·.2))).Nodup
section
variable {w w' : World} {B p q : Nat} {s : St} {ve vc : Value} {ys : List Value} {cs : List (Value × Value)}
theorem Stk.val (h : Stk w B p s ve vc ys cs) : StkV w B s ve vc ys cs := ⟨h.envs, h.chs, h.ylen, h.clen, h.yrow, h.crow, h.nodup⟩
theorem StkV.stay (h : StkV w B s ve vc ys cs) (hk : ∀ g, B ≤ g → g < w.heap.size → w'.heap[g]? = w.heap[g]?) : StkV w' B s ve vc ys cs := by
  have ho : ∀ {t size n : Nat} {v : Value} {xs : List Value}, w.ownsRow B t size v n xs → w'.ownsRow B t size v n xs := fun h1 => own_stay h1 fun g hg => hk g (h1.lt g hg).1 (h1.lt g hg).2
  exact ⟨ho h.envs, ho h.chs, h.ylen, h.clen, fun i x v hx hv => ho (h.yrow i x v hx hv), fun i x v hx hv => ⟨ho (h.crow i x v hx hv).1, ho (h.crow i x v hx hv).2⟩, h.nodup⟩
theorem StkV.next (h : StkV w B s ve vc ys cs) (hb : Below w.heap.size w w') : StkV w' B s ve vc ys cs := h.stay fun g _ hg => hb.block g hg
theorem StkV.box (h : StkV w B s ve vc ys cs) (hb : Blk w p 25 #[ve, .int .i64 s.e, vc]) (hp : B ≤ p) : Stk w B p s ve vc ys cs := ⟨hb, hp, h.envs, h.chs, h.ylen, h.clen, h.yrow, h.crow, h.nodup⟩
/-- another block of the boxes' type is none of the stacks' -/
theorem Stk.foot_ne (h : Stk w B p s ve vc ys cs) {b : Array Value} (hq : Blk w q 25 b) (hpq : q ≠ p) : q ∉ foot p ve vc ys cs := by
  intro hg
  rcases List.mem_cons.1 hg with rfl | hg
  · exact hpq rfl
  · obtain ⟨v, hv, e⟩ := List.mem_filterMap.1 hg
    simp only [List.cons_append, List.mem_cons, List.mem_append] at hv
    rcases hv with rfl | rfl | ((hv | hv) | hv)
    · exact own_ne h.envs hq (by decide) e rfl
    · exact own_ne h.chs hq (by decide) e rfl
    all_goals
      obtain ⟨t, size, n, xs, h1, t1, -⟩ := h.typed (v := v) (by simp only [List.cons_append, List.mem_cons, List.mem_append]; simp [hv])
      exact own_ne h1 hq t1 e rfl
end
theorem take_more {α : Type} {l : List α} {k : Nat} {x : α} (h : l[k]? = some x) : l.take (k + 1) = l.take k ++ [x] := by rw [List.take_add_one, h]; rfl
/-- fresh stacks are returned -/
def CloneR (B : Nat) (s : St) (e : Ending) (w : World) : Prop := ∃ ve vc ys cs, e = .returned (.agg #[ve, .int .i64 s.e, vc]) ∧ StkV w B s ve vc ys cs
set_option maxHeartbeats 8000000 in
theorem clone_any {A A1 : Option Addr} {c c1 : Nat} (s : St) (w : World) (h : StAt w A c A1 c1 s) (hn : s.envs.length ≤ 1048576) (hnc : s.chs.length ≤ 1048576) (hny : ∀ x ∈ s.envs, x.y.length ≤ 8796093022208)
    (hna : ∀ x ∈ s.chs, x.args.length ≤ 8796093022208 ∧ x.alts.length ≤ 17592186044416) :
    Calls Try.prog 10 #[stV s A c A1 c1] w fun e w' => CloneR w.heap.size s e w' ∧ Below w.heap.size w w' := by
  obtain ⟨j1, hi1, hz1, hy1, hb1'⟩ := info_parts info54
  obtain ⟨j2, hi2, hz2, hy2, hb2'⟩ := info_parts info29
  obtain ⟨W, HW⟩ : ∃ X, Hid (X = ((w.alloc (.cells #[.slice A s.envs.length c, .int .i64 s.e, .slice A1 s.chs.length c1] 25)).alloc (.cells #[.slice none 0 0, .int .i64 0, .slice none 0 0] 25)).alloc (.cells #[.slice none 0 0, .int .i64 s.e, .slice none 0 0] 25)) := ⟨_, rfl⟩
  have hbW : Below w.heap.size w W := by rw [HW.out]; exact ((bAlloc w _).alloc (by simp) _).alloc (by simp; omega) _
  obtain ⟨B, hB⟩ : ∃ q, Hid (q = w.heap.size) := ⟨_, rfl⟩
  obtain ⟨q, hq⟩ : ∃ q, Hid (q = w.heap.size) := ⟨_, rfl⟩
  obtain ⟨r, hr⟩ : ∃ q, Hid (q = w.heap.size + 1) := ⟨_, rfl⟩
  obtain ⟨t, ht⟩ : ∃ q, Hid (q = w.heap.size + 1 + 1) := ⟨_, rfl⟩
  have hk0 : Blk W q 25 #[.slice A s.envs.length c, .int .i64 s.e, .slice A1 s.chs.length c1] := by rw [HW.out, hq.out]; exact ((Blk.new w _ _).alloc _).alloc _
  have hk1 : Blk W r 25 #[.slice none 0 0, .int .i64 0, .slice none 0 0] := by
    rw [HW.out, hr.out]
    have h1 := (Blk.new (w.alloc (.cells #[.slice A s.envs.length c, .int .i64 s.e, .slice A1 s.chs.length c1] 25)) 25 #[.slice none 0 0, .int .i64 0, .slice none 0 0]).alloc (.cells #[.slice none 0 0, .int .i64 s.e, .slice none 0 0] 25)
    rw [World.size_alloc] at h1
    exact h1
  have hk2 : Blk W t 25 #[.slice none 0 0, .int .i64 s.e, .slice none 0 0] := by
    rw [HW.out, ht.out]
    have h1 := Blk.new ((w.alloc (.cells #[.slice A s.envs.length c, .int .i64 s.e, .slice A1 s.chs.length c1] 25)).alloc (.cells #[.slice none 0 0, .int .i64 0, .slice none 0 0] 25)) 25 #[.slice none 0 0, .int .i64 s.e, .slice none 0 0]
    rw [World.size_alloc, World.size_alloc] at h1
    exact h1
  have hBw : B ≤ w.heap.size := by rw [hB.out]; exact Nat.le_refl _
  have hBt : B ≤ t := by rw [hB.out, ht.out]; omega
  have hBr : B ≤ r := by rw [hB.out, hr.out]; omega
  have hqt : q ≠ t := by rw [hq.out, ht.out]; omega
  have hrt : r ≠ t := by rw [hr.out, ht.out]; omega
  have hwt : w.heap.size ≤ t := by rw [ht.out]; omega
  have hwr : w.heap.size ≤ r := by rw [hr.out]; omega
  have HS := Lib.hid h
  have HBW := Lib.hid hbW
  have HST0 := Lib.hid (show Stk W B t ⟨s.envs.take 0, s.e, s.chs.take 0⟩ (.slice none 0 0) (.slice none 0 0) [] [] from
    ⟨hk2, hBt, World.ownsRow_nil _ _ _ _, World.ownsRow_nil _ _ _ _, rfl, rfl, fun i x v hx => by simp at hx, fun i x v hx => by simp at hx, List.nodup_nil⟩)
  have HK0 := Lib.hid hk0
  have HK1 := Lib.hid hk1
  clear h hbW hk0 hk1 hk2
  go_enter Try.func10, Try.ntmps10
  go_upto_region 2 with fail
  rw [← HW.out, ← ht.out, ← hr.out, ← hq.out]
  clear HW
  go_wp2_with fail
  go_loopw [4] (fun i wr => ∃ k : Nat, k ≤ s.envs.length ∧ i = .int .i64 (k : Int) ∧ Hid (Below w.heap.size w wr) ∧ Hid (Blk wr q 25 #[.slice A s.envs.length c, .int .i64 s.e, .slice A1 s.chs.length c1]) ∧ Hid (Blk wr r 25 #[.slice none 0 0, .int .i64 0, .slice none 0 0]) ∧ ∃ ve ys, Hid (Stk wr B t ⟨s.envs.take k, s.e, s.chs.take 0⟩ ve (.slice none 0 0) ys [])) (fun i _ => s.envs.length - (intOf i).toNat)
  case atStart => exact ⟨0, by omega, rfl, HBW, HK0, HK1, _, _, HST0⟩
  case round =>
    clear HBW HK0 HK1 HST0
    obtain ⟨k, hk, rfl, HI, HQ, HR, ve, ys, HST⟩ := hrel
    have i0 := HQ.out.cell 0
    have i2 := HQ.out.cell 2
    have il := HQ.out.lt
    simp at i0 i2
    by_cases hlt : k < s.envs.length
    · obtain ⟨x, hx⟩ : ∃ x, s.envs[k]? = some x := ⟨_, List.getElem?_eq_getElem hlt⟩
      have hyl := hny x (List.mem_of_getElem? hx)
      obtain ⟨b, off, rfl, hb, hat⟩ := HS.out.envs (by omega)
      obtain ⟨Ay, cy, x0, x1, x2, x3, hcy, hca⟩ := (hat k x hx).next (HI.out.mono (Nat.le_refl _)) hb
      have hlen : (s.envs.take k).length = k := by rw [List.length_take]; omega
      have hrow := HST.out.envs
      rw [show (⟨_, s.e, _⟩ : St).envs.length = k from hlen] at hrow
      obtain ⟨Ve, cve, rfl, -⟩ := own_form hrow
      have hrl : b < wr.heap.size := Nat.lt_of_lt_of_le hb HI.out.size
      go_upto_region 5 with fail
      obtain ⟨X0, HX0⟩ : ∃ X, Hid (X = wr.drew) := ⟨_, rfl⟩
      have hd0 : Below wr.heap.size wr X0 := by rw [HX0.out]; exact bDrew _
      have HS0 := Lib.hid (HST.out.next hd0)
      have HQ0 := Lib.hid (HQ.out.next hd0)
      have HR0 := Lib.hid (HR.out.next hd0)
      have HI0 := Lib.hid (bNext HI.out hd0)
      have HX := Lib.hid hx
      have HC0 := Lib.hid hcy
      have HA0 := Lib.hid (hca.next hd0)
      have HLEN := Lib.hid hlen
      refine wp_region_N (fun w' => Blk w' t 25 #[.slice Ve k cve, .int .i64 s.e, .slice none 0 0] ∧ Blk w' q 25 #[.slice (some ⟨b, off, none⟩) s.envs.length c, .int .i64 s.e, .slice A1 s.chs.length c1] ∧ w'.cell? ⟨b, off + k * 4, none⟩ = some (.int .i64 x.prev) ∧ w'.cell? ⟨b, off + k * 4 + 1, none⟩ = some (.int .i64 x.id) ∧ w'.cell? ⟨b, off + k * 4 + 2, none⟩ = some (.int .i64 x.pc) ∧ w'.cell? ⟨b, off + k * 4 + 3, none⟩ = some (.slice Ay x.y.length cy)) (fun j => decide (j < 10)) (by kernel_rfl) ?_
      rw [← HX0.out]
      clear HX0
      have hS0 : (fun w' => Blk w' t 25 #[.slice Ve k cve, .int .i64 s.e, .slice none 0 0] ∧ Blk w' q 25 #[.slice (some ⟨b, off, none⟩) s.envs.length c, .int .i64 s.e, .slice A1 s.chs.length c1] ∧ w'.cell? ⟨b, off + k * 4, none⟩ = some (.int .i64 x.prev) ∧ w'.cell? ⟨b, off + k * 4 + 1, none⟩ = some (.int .i64 x.id) ∧ w'.cell? ⟨b, off + k * 4 + 2, none⟩ = some (.int .i64 x.pc) ∧ w'.cell? ⟨b, off + k * 4 + 3, none⟩ = some (.slice Ay x.y.length cy)) X0 := ⟨HS0.out.box, HQ0.out, (hd0.cell (p := ⟨b, _, none⟩) hrl).trans x0, (hd0.cell (p := ⟨b, _, none⟩) hrl).trans x1, (hd0.cell (p := ⟨b, _, none⟩) hrl).trans x2, (hd0.cell (p := ⟨b, _, none⟩) hrl).trans x3⟩
      clear hat hx hcy hca hd0 hrow hlen x0 x1 x2 x3
      refine wpAnyN_take (i := 0) (v := ?v1) rfl (by kernel_rfl) (by kernel_rfl) (by kernel_rfl) (by kernel_rfl) (fun _ _ _ h => h) (Or.inl ⟨by rfl, ?hy1⟩) (by assumption) ?_
      case hy1 => intro w hSw; obtain ⟨hsp, hsq, x0, x1, x2, x3⟩ := hSw; have e0 := hsp.cell 0; have e2 := hsp.cell 2; have z0 := hsq.cell 0; have z2 := hsq.cell 2; simp at e0 e2 z0 z2; go_simp; try with_reducible rfl
      simp only [Act.put, List.getElem_toArray, List.getElem_cons_zero, List.setIfInBounds_toArray, List.set_cons_zero, List.set_cons_succ]
      refine wpAnyN_take (i := 1) (v := ?v2) rfl (by kernel_rfl) (by kernel_rfl) (by kernel_rfl) (by kernel_rfl) (fun _ _ _ h => h) (Or.inl ⟨by rfl, ?hy2⟩) (by assumption) ?_
      case hy2 => intro w hSw; obtain ⟨hsp, hsq, x0, x1, x2, x3⟩ := hSw; have e0 := hsp.cell 0; have e2 := hsp.cell 2; have z0 := hsq.cell 0; have z2 := hsq.cell 2; simp at e0 e2 z0 z2; go_simp; try with_reducible rfl
      simp only [Act.put, List.getElem_toArray, List.getElem_cons_zero, List.getElem_cons_succ, List.setIfInBounds_toArray, List.set_cons_zero, List.set_cons_succ]
      refine wpAnyN_take (i := 2) (v := ?v3) rfl (by kernel_rfl) (by kernel_rfl) (by kernel_rfl) (by kernel_rfl) (fun _ _ _ h => h) (Or.inl ⟨by rfl, ?hy3⟩) (by assumption) ?_
      case hy3 => intro w hSw; obtain ⟨hsp, hsq, x0, x1, x2, x3⟩ := hSw; have e0 := hsp.cell 0; have e2 := hsp.cell 2; have z0 := hsq.cell 0; have z2 := hsq.cell 2; simp at e0 e2 z0 z2; go_simp; try with_reducible rfl
      simp only [Act.put, List.getElem_toArray, List.getElem_cons_zero, List.getElem_cons_succ, List.setIfInBounds_toArray, List.set_cons_zero, List.set_cons_succ]
      refine wpAnyN_take (i := 3) (v := ?v4) rfl (by kernel_rfl) (by kernel_rfl) (by kernel_rfl) (by kernel_rfl) (fun _ _ _ h => h) (Or.inl ⟨by rfl, ?hy4⟩) (by assumption) ?_
      case hy4 => intro w hSw; obtain ⟨hsp, hsq, x0, x1, x2, x3⟩ := hSw; have e0 := hsp.cell 0; have e2 := hsp.cell 2; have z0 := hsq.cell 0; have z2 := hsq.cell 2; simp at e0 e2 z0 z2; go_simp; try with_reducible rfl
      simp only [Act.put, List.getElem_toArray, List.getElem_cons_zero, List.getElem_cons_succ, List.setIfInBounds_toArray, List.set_cons_zero, List.set_cons_succ]
      refine wpAnyN_take (i := 4) (v := ?v5) rfl (by kernel_rfl) (by kernel_rfl) (by kernel_rfl) (by kernel_rfl) (fun _ _ _ h => h) (Or.inl ⟨by rfl, ?hy5⟩) (by assumption) ?_
      case hy5 => intro w hSw; obtain ⟨hsp, hsq, x0, x1, x2, x3⟩ := hSw; have e0 := hsp.cell 0; have e2 := hsp.cell 2; have z0 := hsq.cell 0; have z2 := hsq.cell 2; simp at e0 e2 z0 z2; go_simp; try with_reducible rfl
      simp only [Act.put, List.getElem_toArray, List.getElem_cons_zero, List.getElem_cons_succ, List.setIfInBounds_toArray, List.set_cons_zero, List.set_cons_succ]
      refine wpAnyN_take (i := 5) (v := ?v6) rfl (by kernel_rfl) (by kernel_rfl) (by kernel_rfl) (by kernel_rfl) (fun _ _ _ h => h) (Or.inl ⟨by rfl, ?hy6⟩) (by assumption) ?_
      case hy6 => intro w hSw; obtain ⟨hsp, hsq, x0, x1, x2, x3⟩ := hSw; have e0 := hsp.cell 0; have e2 := hsp.cell 2; have z0 := hsq.cell 0; have z2 := hsq.cell 2; simp at e0 e2 z0 z2; go_simp; try with_reducible rfl
      simp only [Act.put, List.getElem_toArray, List.getElem_cons_zero, List.getElem_cons_succ, List.setIfInBounds_toArray, List.set_cons_zero, List.set_cons_succ]
      refine wpAnyN_take (i := 6) (v := ?v7) rfl (by kernel_rfl) (by kernel_rfl) (by kernel_rfl) (by kernel_rfl) (fun _ _ _ h => h) (Or.inl ⟨by rfl, ?hy7⟩) (by assumption) ?_
      case hy7 => intro w hSw; obtain ⟨hsp, hsq, x0, x1, x2, x3⟩ := hSw; have e0 := hsp.cell 0; have e2 := hsp.cell 2; have z0 := hsq.cell 0; have z2 := hsq.cell 2; simp at e0 e2 z0 z2; go_simp; try with_reducible rfl
      simp only [Act.put, List.getElem_toArray, List.getElem_cons_zero, List.getElem_cons_succ, List.setIfInBounds_toArray, List.set_cons_zero, List.set_cons_succ]
      have hrl0 : b < X0.heap.size := Nat.lt_of_lt_of_le hb HI0.out.size
      refine wpAnyN_one (i := 7) (by kernel_rfl) rfl (fun K hK => ?_)
      simp only [List.getElem_toArray, List.getElem_cons_zero, List.getElem_cons_succ]
      go_simp
      refine (ownEnv_any Ay cy x X0 HC0.out HA0.out hyl).mono ?_
      rintro e w6 ⟨⟨v, rfl, hv⟩, hb6⟩
      obtain ⟨Av, av, rfl, -⟩ := own_form hv
      have hS6 : (fun w' => Blk w' t 25 #[.slice Ve k cve, .int .i64 s.e, .slice none 0 0] ∧ Blk w' q 25 #[.slice (some ⟨b, off, none⟩) s.envs.length c, .int .i64 s.e, .slice A1 s.chs.length c1] ∧ w'.cell? ⟨b, off + k * 4, none⟩ = some (.int .i64 x.prev) ∧ w'.cell? ⟨b, off + k * 4 + 1, none⟩ = some (.int .i64 x.id) ∧ w'.cell? ⟨b, off + k * 4 + 2, none⟩ = some (.int .i64 x.pc) ∧ w'.cell? ⟨b, off + k * 4 + 3, none⟩ = some (.slice Ay x.y.length cy)) w6 := ⟨hS0.1.next hb6, hS0.2.1.next hb6, (hb6.cell (p := ⟨b, _, none⟩) hrl0).trans hS0.2.2.1, (hb6.cell (p := ⟨b, _, none⟩) hrl0).trans hS0.2.2.2.1, (hb6.cell (p := ⟨b, _, none⟩) hrl0).trans hS0.2.2.2.2.1, (hb6.cell (p := ⟨b, _, none⟩) hrl0).trans hS0.2.2.2.2.2⟩
      refine hK _ _ (fun _ => hS6) ?_
      (try simp only [Act.put, List.setIfInBounds_toArray, List.set_cons_zero, List.set_cons_succ])
      have HS6 := Lib.hid (HS0.out.next hb6)
      have HQ6 := Lib.hid (HQ0.out.next hb6)
      have HR6 := Lib.hid (HR0.out.next hb6)
      have HI6 := Lib.hid (bNext HI0.out hb6)
      have hrl6 : b < w6.heap.size := Nat.lt_of_lt_of_le hb HI6.out.size
      have hz6 := hb6.size
      have HFL := Lib.hid HS0.out.foot_lt
      refine wpAnyN_one (i := 8) (by kernel_rfl) rfl (fun K hK => ?_)
      simp only [List.getElem_toArray, List.getElem_cons_zero, List.getElem_cons_succ]
      go_simp
      have hS7 : (fun w' => Blk w' t 25 #[.slice Ve k cve, .int .i64 s.e, .slice none 0 0] ∧ Blk w' q 25 #[.slice (some ⟨b, off, none⟩) s.envs.length c, .int .i64 s.e, .slice A1 s.chs.length c1] ∧ w'.cell? ⟨b, off + k * 4, none⟩ = some (.int .i64 x.prev) ∧ w'.cell? ⟨b, off + k * 4 + 1, none⟩ = some (.int .i64 x.id) ∧ w'.cell? ⟨b, off + k * 4 + 2, none⟩ = some (.int .i64 x.pc) ∧ w'.cell? ⟨b, off + k * 4 + 3, none⟩ = some (.slice Ay x.y.length cy)) (w6.alloc (.cells #[.int .i64 x.prev, .int .i64 x.id, .int .i64 x.pc, .slice Av x.y.length av] 54)) := ⟨hS6.1.alloc _, hS6.2.1.alloc _, (World.cell?_alloc_lt _ _ _ hrl6).trans hS6.2.2.1, (World.cell?_alloc_lt _ _ _ hrl6).trans hS6.2.2.2.1, (World.cell?_alloc_lt _ _ _ hrl6).trans hS6.2.2.2.2.1, (World.cell?_alloc_lt _ _ _ hrl6).trans hS6.2.2.2.2.2⟩
      refine hK _ _ (fun _ => hS7) ?_
      (try simp only [Act.put, List.setIfInBounds_toArray, List.set_cons_zero, List.set_cons_succ])
      have hX7 : B ≤ w6.heap.size := Nat.le_trans hBw HI6.out.size
      refine wpAnyN_one (i := 9) (by kernel_rfl) rfl (fun K hK => ?_)
      simp only [List.getElem_toArray, List.getElem_cons_zero, List.getElem_cons_succ]
      rw [if_pos (by rfl)]
      have hblk := Blk.new w6 54 #[.int .i64 x.prev, .int .i64 x.id, .int .i64 x.pc, .slice Av x.y.length av]
      have hrw := HS6.out.envs.alloc (.cells #[.int .i64 x.prev, .int .i64 x.id, .int .i64 x.pc, .slice Av x.y.length av] 54)
      rw [show (⟨_, s.e, _⟩ : St).envs.length = k from HLEN.out] at hrw
      refine wp_append_lies _ _ _ 22 rfl B 54 j1 _ 4 48 Try.underlying22 hi1 hz1 hy1 hb1' rfl (by decide) (.slice Ve k cve) k (eCs (s.envs.take k) ys) rfl hrw ⟨w6.heap.size, 0, none⟩ 1 1 (eCs [x] [.slice Av x.y.length av]) rfl ?c1 ?c2 ?c3 (by omega) ?c4 ?c5 ?c6 _ rfl ?_
      case c1 => rfl
      case c2 =>
        intro i u hi
        have h := hblk.cell i
        have e : (⟨w6.heap.size, 0, none⟩ : Addr).add i = ⟨w6.heap.size, i, none⟩ := by cases i <;> simp [Addr.add]
        rw [e]
        exact h.trans (by simpa [eCs] using hi)
      case c3 =>
        intro u hu
        simp only [eCs, List.mem_cons, List.not_mem_nil, or_false] at hu
        rcases hu with rfl | rfl | rfl | rfl <;> rfl
      case c4 => unfold maxLen; omega
      case c5 => omega
      case c6 => simp; omega
      intro gD e8 w8 ho8 hg8 hat8 hlt8
      have hgp : Value.ownBlock (.slice Ve k cve) ≠ some t := fun e => own_ne HS6.out.envs HS6.out.box (by decide) e rfl
      have hgq : Value.ownBlock (.slice Ve k cve) ≠ some q := fun e => own_ne HS6.out.envs HQ6.out (by decide) e rfl
      have hgr : Value.ownBlock (.slice Ve k cve) ≠ some r := fun e => own_ne HS6.out.envs HR6.out (by decide) e rfl
      have k8 : Blk w8 t 25 _ := Blk.grown hS7.1 hg8 hgp
      have kq8 : Blk w8 q 25 _ := Blk.grown hS7.2.1 hg8 hgq
      have hwb : ∀ g, Value.ownBlock (.slice Ve k cve) = some g → w.heap.size ≤ g := fun g hg => by have h1 := (HS6.out.envs.lt g hg).1; have h2 := hB.out; omega
      have hgb : some b ≠ Value.ownBlock (.slice Ve k cve) := fun e => by have h1 := hwb b e.symm; omega
      have f0 := k8.frozen 0
      have g0 := k8.cell 0
      have l8 := k8.lt
      simp at g0
      refine hK _ _ (fun _ => ⟨k8, kq8, (hg8.cell_far _ (by simp; omega) hgb).trans hS7.2.2.1, (hg8.cell_far _ (by simp; omega) hgb).trans hS7.2.2.2.1, (hg8.cell_far _ (by simp; omega) hgb).trans hS7.2.2.2.2.1, (hg8.cell_far _ (by simp; omega) hgb).trans hS7.2.2.2.2.2⟩) ?_
      (try simp only [Act.put, List.setIfInBounds_toArray, List.set_cons_zero, List.set_cons_succ])
      refine wpAnyN_one (i := 10) (by kernel_rfl) rfl (fun K hK => ?_)
      simp only [List.getElem_toArray, List.getElem_cons_zero, List.getElem_cons_succ]
      go_simp
      refine hK _ _ (fun h => absurd h (by decide)) ?_
      (try simp only [Act.put, List.setIfInBounds_toArray, List.set_cons_zero, List.set_cons_succ])
      refine wpAnyN_one (i := 11) (by kernel_rfl) rfl (fun K hK => ?_)
      simp only [List.getElem_toArray, List.getElem_cons_zero, List.getElem_cons_succ]
      go_simp
      refine hK _ _ (fun h => absurd h (by decide)) ?_
      (try simp only [Act.put, List.setIfInBounds_toArray, List.set_cons_zero, List.set_cons_succ])
      refine wpAnyN_done (by kernel_rfl) ?_ _
      have hbF := k8.set_ 0 (.slice (some ⟨gD, 0, none⟩) (k + 1) e8)
      have huF := (Upd.refl t w8).set 0 (.slice (some ⟨gD, 0, none⟩) (k + 1) e8)
      obtain ⟨WF, HWF⟩ : ∃ X, Hid (X = w8.setCell ⟨t, 0, none⟩ (.slice (some ⟨gD, 0, none⟩) (k + 1) e8)) := ⟨_, rfl⟩
      rw [← HWF.out] at hbF huF ⊢
      have hz : ∀ i, i < w6.heap.size → i ≠ t → some i ≠ Value.ownBlock (.slice Ve k cve) → WF.heap[i]? = w6.heap[i]? := fun i h1 h2 h3 =>
        (huF.block i h2).trans ((hg8.block i (by simp; omega) h3).trans (Below.heap_alloc w6 _ i h1))
      have hIF : Below w.heap.size w WF := huF.below ((HI6.out.alloc HI6.out.size _).grown hg8 (by have := HI6.out.size; simp; omega) hwb) hwt
      have hrow : ∀ {t' size n B' : Nat} {v : Value} {xs : List Value}, w6.ownsRow B' t' size v n xs → t' ≠ 25 → t' ≠ 54 → WF.ownsRow B' t' size v n xs := fun h1 t1 t2 =>
        own_stay h1 fun i hi => hz i (h1.lt i hi).2 (own_ne h1 HS6.out.box t1 hi) (own_apart h1 HS6.out.envs t2 hi)
      have hP := HS6.out.allocated (w' := WF) (vy := .slice Av x.y.length av) (ve' := (.slice (some ⟨gD, 0, none⟩) (k + 1) e8)) (x := x) (e := s.e) (b := X0.heap.size) HFL.out
        (fun v hv k hk => by
          obtain ⟨t', size, n, xs, h1, t1, t2⟩ := HS6.out.typedE hv
          exact hz k (h1.lt k hk).2 (own_ne h1 HS6.out.box t1 hk) (own_apart h1 HS6.out.envs t2 hk))
        (by simpa using hbF) (by rw [show (⟨_, s.e, _⟩ : St).envs.length = k from HLEN.out]; exact own_stay ho8 fun i hi => huF.block i (own_ne ho8 k8 (by decide) hi))
        (own_base (hrow hv (by decide) (by decide)) (Nat.le_trans hBw HI0.out.size)) (fun i hi => (hv.lt i hi).1)
      rw [show (⟨List.take k s.envs, s.e, List.take 0 s.chs⟩ : St).envs ++ [x] = s.envs.take (k + 1) from (take_more HX.out).symm] at hP
      have HP := Lib.hid hP
      have HIF := Lib.hid hIF
      have HQF := Lib.hid (show Blk WF q 25 _ from (hz q HQ6.out.lt hqt (fun e => hgq e.symm)).trans HQ6.out)
      have HRF := Lib.hid (show Blk WF r 25 _ from (hz r HR6.out.lt hrt (fun e => hgr e.symm)).trans HR6.out)
      clear hP hIF hz hrow hbF huF HWF k8 kq8 ho8 hg8 hat8 hS0 hS6 hS7 hblk hrw f0 g0
      go_wp2_with fail
      exact ⟨⟨k + 1, by omega, by go_num, HIF, HQF, HRF, _, _, HP⟩, by simp [intOf]; omega⟩
    · obtain rfl : k = s.envs.length := by omega
      rw [List.take_length] at HST
      go_wp2_with fail
      go_loopw [5] (fun i wr => ∃ k : Nat, k ≤ s.chs.length ∧ i = .int .i64 (k : Int) ∧ Hid (Below w.heap.size w wr) ∧ Hid (Blk wr q 25 #[.slice A s.envs.length c, .int .i64 s.e, .slice A1 s.chs.length c1]) ∧ Hid (Blk wr r 25 #[.slice none 0 0, .int .i64 0, .slice none 0 0]) ∧ ∃ vc cs, Hid (Stk wr B t ⟨s.envs, s.e, s.chs.take k⟩ ve vc ys cs)) (fun i _ => s.chs.length - (intOf i).toNat)
      case atStart => exact ⟨0, by omega, rfl, HI, HQ, HR, _, _, HST⟩
      case round =>
        clear HI HQ HR HST i0 i2 il
        obtain ⟨k2, hk2, rfl, HI, HQ, HR, vc, cs, HST⟩ := hrel
        have i0 := HQ.out.cell 0
        have i2 := HQ.out.cell 2
        have il := HQ.out.lt
        simp at i0 i2
        by_cases hlt2 : k2 < s.chs.length
        · obtain ⟨x, hx⟩ : ∃ x, s.chs[k2]? = some x := ⟨_, List.getElem?_eq_getElem hlt2⟩
          have hyl := hna x (List.mem_of_getElem? hx)
          obtain ⟨b, off, rfl, hb, hat⟩ := HS.out.chs (by omega)
          obtain ⟨Ay, cy, Az, cz, x0, x1, x2, x3, x4, x5, x6, x7, x8, x9, x10, hcy, hcz, hca, hcb⟩ := (hat k2 x hx).next (HI.out.mono (Nat.le_refl _)) hb
          have hlen : (s.chs.take k2).length = k2 := by rw [List.length_take]; omega
          have hrow := HST.out.chs
          rw [show (⟨_, s.e, _⟩ : St).chs.length = k2 from hlen] at hrow
          obtain ⟨Ve, cve, rfl, -⟩ := own_form hrow
          have hrl : b < wr.heap.size := Nat.lt_of_lt_of_le hb HI.out.size
          go_upto_region 9 with fail
          obtain ⟨X0, HX0⟩ : ∃ X, Hid (X = wr.drew) := ⟨_, rfl⟩
          have hd0 : Below wr.heap.size wr X0 := by rw [HX0.out]; exact bDrew _
          have HS0 := Lib.hid (HST.out.next hd0)
          have HQ0 := Lib.hid (HQ.out.next hd0)
          have HR0 := Lib.hid (HR.out.next hd0)
          have HI0 := Lib.hid (bNext HI.out hd0)
          have HX := Lib.hid hx
          have HC0 := Lib.hid hcy
          have HA0 := Lib.hid (hca.next hd0)
          have HC1 := Lib.hid hcz
          have HA1 := Lib.hid (hcb.next hd0)
          have HLEN := Lib.hid hlen
          refine wp_region_N (fun w' => Blk w' t 25 #[ve, .int .i64 s.e, .slice Ve k2 cve] ∧ Blk w' q 25 #[.slice A s.envs.length c, .int .i64 s.e, .slice (some ⟨b, off, none⟩) s.chs.length c1] ∧ w'.cell? ⟨b, off + k2 * 11, none⟩ = some (.int .i64 x.kind) ∧ w'.cell? ⟨b, off + k2 * 11 + 1, none⟩ = some (.slice Ay x.args.length cy) ∧ w'.cell? ⟨b, off + k2 * 11 + 2, none⟩ = some (.int .i64 x.env) ∧ w'.cell? ⟨b, off + k2 * 11 + 3, none⟩ = some (.int .i64 x.id) ∧ w'.cell? ⟨b, off + k2 * 11 + 4, none⟩ = some (.int .i64 x.pc) ∧ w'.cell? ⟨b, off + k2 * 11 + 5, none⟩ = some (.int .i64 x.cut) ∧ w'.cell? ⟨b, off + k2 * 11 + 6, none⟩ = some (.int .i64 x.mark) ∧ w'.cell? ⟨b, off + k2 * 11 + 7, none⟩ = some (.int .i64 x.top) ∧ w'.cell? ⟨b, off + k2 * 11 + 8, none⟩ = some (.int .i64 x.envs) ∧ w'.cell? ⟨b, off + k2 * 11 + 9, none⟩ = some (.slice Az x.alts.length cz) ∧ w'.cell? ⟨b, off + k2 * 11 + 10, none⟩ = some (.int .i64 x.data)) (fun j => decide (j < 10)) (by kernel_rfl) ?_
          rw [← HX0.out]
          clear HX0
          have hS0 : (fun w' => Blk w' t 25 #[ve, .int .i64 s.e, .slice Ve k2 cve] ∧ Blk w' q 25 #[.slice A s.envs.length c, .int .i64 s.e, .slice (some ⟨b, off, none⟩) s.chs.length c1] ∧ w'.cell? ⟨b, off + k2 * 11, none⟩ = some (.int .i64 x.kind) ∧ w'.cell? ⟨b, off + k2 * 11 + 1, none⟩ = some (.slice Ay x.args.length cy) ∧ w'.cell? ⟨b, off + k2 * 11 + 2, none⟩ = some (.int .i64 x.env) ∧ w'.cell? ⟨b, off + k2 * 11 + 3, none⟩ = some (.int .i64 x.id) ∧ w'.cell? ⟨b, off + k2 * 11 + 4, none⟩ = some (.int .i64 x.pc) ∧ w'.cell? ⟨b, off + k2 * 11 + 5, none⟩ = some (.int .i64 x.cut) ∧ w'.cell? ⟨b, off + k2 * 11 + 6, none⟩ = some (.int .i64 x.mark) ∧ w'.cell? ⟨b, off + k2 * 11 + 7, none⟩ = some (.int .i64 x.top) ∧ w'.cell? ⟨b, off + k2 * 11 + 8, none⟩ = some (.int .i64 x.envs) ∧ w'.cell? ⟨b, off + k2 * 11 + 9, none⟩ = some (.slice Az x.alts.length cz) ∧ w'.cell? ⟨b, off + k2 * 11 + 10, none⟩ = some (.int .i64 x.data)) X0 := ⟨HS0.out.box, HQ0.out, (hd0.cell (p := ⟨b, _, none⟩) hrl).trans x0, (hd0.cell (p := ⟨b, _, none⟩) hrl).trans x1, (hd0.cell (p := ⟨b, _, none⟩) hrl).trans x2, (hd0.cell (p := ⟨b, _, none⟩) hrl).trans x3, (hd0.cell (p := ⟨b, _, none⟩) hrl).trans x4, (hd0.cell (p := ⟨b, _, none⟩) hrl).trans x5, (hd0.cell (p := ⟨b, _, none⟩) hrl).trans x6, (hd0.cell (p := ⟨b, _, none⟩) hrl).trans x7, (hd0.cell (p := ⟨b, _, none⟩) hrl).trans x8, (hd0.cell (p := ⟨b, _, none⟩) hrl).trans x9, (hd0.cell (p := ⟨b, _, none⟩) hrl).trans x10⟩
          clear hat hx hcy hca hcz hcb hd0 hrow hlen x0 x1 x2 x3 x4 x5 x6 x7 x8 x9 x10
          refine wpAnyN_take (i := 0) (v := ?v8) rfl (by kernel_rfl) (by kernel_rfl) (by kernel_rfl) (by kernel_rfl) (fun _ _ _ h => h) (Or.inl ⟨by rfl, ?hy8⟩) (by assumption) ?_
          case hy8 => intro w hSw; obtain ⟨hsp, hsq, x0, x1, x2, x3, x4, x5, x6, x7, x8, x9, x10⟩ := hSw; have e0 := hsp.cell 0; have e2 := hsp.cell 2; have z0 := hsq.cell 0; have z2 := hsq.cell 2; simp at e0 e2 z0 z2; go_simp; try with_reducible rfl
          simp only [Act.put, List.getElem_toArray, List.getElem_cons_zero, List.setIfInBounds_toArray, List.set_cons_zero, List.set_cons_succ]
          refine wpAnyN_take (i := 1) (v := ?v9) rfl (by kernel_rfl) (by kernel_rfl) (by kernel_rfl) (by kernel_rfl) (fun _ _ _ h => h) (Or.inl ⟨by rfl, ?hy9⟩) (by assumption) ?_
          case hy9 => intro w hSw; obtain ⟨hsp, hsq, x0, x1, x2, x3, x4, x5, x6, x7, x8, x9, x10⟩ := hSw; have e0 := hsp.cell 0; have e2 := hsp.cell 2; have z0 := hsq.cell 0; have z2 := hsq.cell 2; simp at e0 e2 z0 z2; go_simp; try with_reducible rfl
          simp only [Act.put, List.getElem_toArray, List.getElem_cons_zero, List.getElem_cons_succ, List.setIfInBounds_toArray, List.set_cons_zero, List.set_cons_succ]
          refine wpAnyN_take (i := 2) (v := ?v10) rfl (by kernel_rfl) (by kernel_rfl) (by kernel_rfl) (by kernel_rfl) (fun _ _ _ h => h) (Or.inl ⟨by rfl, ?hy10⟩) (by assumption) ?_
          case hy10 => intro w hSw; obtain ⟨hsp, hsq, x0, x1, x2, x3, x4, x5, x6, x7, x8, x9, x10⟩ := hSw; have e0 := hsp.cell 0; have e2 := hsp.cell 2; have z0 := hsq.cell 0; have z2 := hsq.cell 2; simp at e0 e2 z0 z2; go_simp; try with_reducible rfl
          simp only [Act.put, List.getElem_toArray, List.getElem_cons_zero, List.getElem_cons_succ, List.setIfInBounds_toArray, List.set_cons_zero, List.set_cons_succ]
          refine wpAnyN_take (i := 3) (v := ?v11) rfl (by kernel_rfl) (by kernel_rfl) (by kernel_rfl) (by kernel_rfl) (fun _ _ _ h => h) (Or.inl ⟨by rfl, ?hy11⟩) (by assumption) ?_
          case hy11 => intro w hSw; obtain ⟨hsp, hsq, x0, x1, x2, x3, x4, x5, x6, x7, x8, x9, x10⟩ := hSw; have e0 := hsp.cell 0; have e2 := hsp.cell 2; have z0 := hsq.cell 0; have z2 := hsq.cell 2; simp at e0 e2 z0 z2; go_simp; try with_reducible rfl
          simp only [Act.put, List.getElem_toArray, List.getElem_cons_zero, List.getElem_cons_succ, List.setIfInBounds_toArray, List.set_cons_zero, List.set_cons_succ]
          refine wpAnyN_take (i := 4) (v := ?v12) rfl (by kernel_rfl) (by kernel_rfl) (by kernel_rfl) (by kernel_rfl) (fun _ _ _ h => h) (Or.inl ⟨by rfl, ?hy12⟩) (by assumption) ?_
          case hy12 => intro w hSw; obtain ⟨hsp, hsq, x0, x1, x2, x3, x4, x5, x6, x7, x8, x9, x10⟩ := hSw; have e0 := hsp.cell 0; have e2 := hsp.cell 2; have z0 := hsq.cell 0; have z2 := hsq.cell 2; simp at e0 e2 z0 z2; go_simp; try with_reducible rfl
          simp only [Act.put, List.getElem_toArray, List.getElem_cons_zero, List.getElem_cons_succ, List.setIfInBounds_toArray, List.set_cons_zero, List.set_cons_succ]
          refine wpAnyN_take (i := 5) (v := ?v13) rfl (by kernel_rfl) (by kernel_rfl) (by kernel_rfl) (by kernel_rfl) (fun _ _ _ h => h) (Or.inl ⟨by rfl, ?hy13⟩) (by assumption) ?_
          case hy13 => intro w hSw; obtain ⟨hsp, hsq, x0, x1, x2, x3, x4, x5, x6, x7, x8, x9, x10⟩ := hSw; have e0 := hsp.cell 0; have e2 := hsp.cell 2; have z0 := hsq.cell 0; have z2 := hsq.cell 2; simp at e0 e2 z0 z2; go_simp; try with_reducible rfl
          simp only [Act.put, List.getElem_toArray, List.getElem_cons_zero, List.getElem_cons_succ, List.setIfInBounds_toArray, List.set_cons_zero, List.set_cons_succ]
          refine wpAnyN_take (i := 6) (v := ?v14) rfl (by kernel_rfl) (by kernel_rfl) (by kernel_rfl) (by kernel_rfl) (fun _ _ _ h => h) (Or.inl ⟨by rfl, ?hy14⟩) (by assumption) ?_
          case hy14 => intro w hSw; obtain ⟨hsp, hsq, x0, x1, x2, x3, x4, x5, x6, x7, x8, x9, x10⟩ := hSw; have e0 := hsp.cell 0; have e2 := hsp.cell 2; have z0 := hsq.cell 0; have z2 := hsq.cell 2; simp at e0 e2 z0 z2; go_simp; try with_reducible rfl
          simp only [Act.put, List.getElem_toArray, List.getElem_cons_zero, List.getElem_cons_succ, List.setIfInBounds_toArray, List.set_cons_zero, List.set_cons_succ]
          have hrl0 : b < X0.heap.size := Nat.lt_of_lt_of_le hb HI0.out.size
          refine wpAnyN_one (i := 7) (by kernel_rfl) rfl (fun K hK => ?_)
          simp only [List.getElem_toArray, List.getElem_cons_zero, List.getElem_cons_succ]
          go_simp
          refine (ownChoice_any Ay Az cy cz x X0 HC0.out HC1.out HA0.out HA1.out hyl.1 hyl.2).mono ?_
          rintro e w6 ⟨⟨v, v', rfl, hv, hv'⟩, hb6⟩
          obtain ⟨Av, av, rfl, -⟩ := own_form hv
          obtain ⟨Bv, bv, rfl, -⟩ := own_form hv'
          have hS6 : (fun w' => Blk w' t 25 #[ve, .int .i64 s.e, .slice Ve k2 cve] ∧ Blk w' q 25 #[.slice A s.envs.length c, .int .i64 s.e, .slice (some ⟨b, off, none⟩) s.chs.length c1] ∧ w'.cell? ⟨b, off + k2 * 11, none⟩ = some (.int .i64 x.kind) ∧ w'.cell? ⟨b, off + k2 * 11 + 1, none⟩ = some (.slice Ay x.args.length cy) ∧ w'.cell? ⟨b, off + k2 * 11 + 2, none⟩ = some (.int .i64 x.env) ∧ w'.cell? ⟨b, off + k2 * 11 + 3, none⟩ = some (.int .i64 x.id) ∧ w'.cell? ⟨b, off + k2 * 11 + 4, none⟩ = some (.int .i64 x.pc) ∧ w'.cell? ⟨b, off + k2 * 11 + 5, none⟩ = some (.int .i64 x.cut) ∧ w'.cell? ⟨b, off + k2 * 11 + 6, none⟩ = some (.int .i64 x.mark) ∧ w'.cell? ⟨b, off + k2 * 11 + 7, none⟩ = some (.int .i64 x.top) ∧ w'.cell? ⟨b, off + k2 * 11 + 8, none⟩ = some (.int .i64 x.envs) ∧ w'.cell? ⟨b, off + k2 * 11 + 9, none⟩ = some (.slice Az x.alts.length cz) ∧ w'.cell? ⟨b, off + k2 * 11 + 10, none⟩ = some (.int .i64 x.data)) w6 := ⟨hS0.1.next hb6, hS0.2.1.next hb6, (hb6.cell (p := ⟨b, _, none⟩) hrl0).trans hS0.2.2.1, (hb6.cell (p := ⟨b, _, none⟩) hrl0).trans hS0.2.2.2.1, (hb6.cell (p := ⟨b, _, none⟩) hrl0).trans hS0.2.2.2.2.1, (hb6.cell (p := ⟨b, _, none⟩) hrl0).trans hS0.2.2.2.2.2.1, (hb6.cell (p := ⟨b, _, none⟩) hrl0).trans hS0.2.2.2.2.2.2.1, (hb6.cell (p := ⟨b, _, none⟩) hrl0).trans hS0.2.2.2.2.2.2.2.1, (hb6.cell (p := ⟨b, _, none⟩) hrl0).trans hS0.2.2.2.2.2.2.2.2.1, (hb6.cell (p := ⟨b, _, none⟩) hrl0).trans hS0.2.2.2.2.2.2.2.2.2.1, (hb6.cell (p := ⟨b, _, none⟩) hrl0).trans hS0.2.2.2.2.2.2.2.2.2.2.1, (hb6.cell (p := ⟨b, _, none⟩) hrl0).trans hS0.2.2.2.2.2.2.2.2.2.2.2.1, (hb6.cell (p := ⟨b, _, none⟩) hrl0).trans hS0.2.2.2.2.2.2.2.2.2.2.2.2⟩
          refine hK _ _ (fun _ => hS6) ?_
          (try simp only [Act.put, List.setIfInBounds_toArray, List.set_cons_zero, List.set_cons_succ])
          have HS6 := Lib.hid (HS0.out.next hb6)
          have HQ6 := Lib.hid (HQ0.out.next hb6)
          have HR6 := Lib.hid (HR0.out.next hb6)
          have HI6 := Lib.hid (bNext HI0.out hb6)
          have hrl6 : b < w6.heap.size := Nat.lt_of_lt_of_le hb HI6.out.size
          have hz6 := hb6.size
          have HFL := Lib.hid HS0.out.foot_lt
          refine wpAnyN_one (i := 8) (by kernel_rfl) rfl (fun K hK => ?_)
          simp only [List.getElem_toArray, List.getElem_cons_zero, List.getElem_cons_succ]
          go_simp
          have hS7 : (fun w' => Blk w' t 25 #[ve, .int .i64 s.e, .slice Ve k2 cve] ∧ Blk w' q 25 #[.slice A s.envs.length c, .int .i64 s.e, .slice (some ⟨b, off, none⟩) s.chs.length c1] ∧ w'.cell? ⟨b, off + k2 * 11, none⟩ = some (.int .i64 x.kind) ∧ w'.cell? ⟨b, off + k2 * 11 + 1, none⟩ = some (.slice Ay x.args.length cy) ∧ w'.cell? ⟨b, off + k2 * 11 + 2, none⟩ = some (.int .i64 x.env) ∧ w'.cell? ⟨b, off + k2 * 11 + 3, none⟩ = some (.int .i64 x.id) ∧ w'.cell? ⟨b, off + k2 * 11 + 4, none⟩ = some (.int .i64 x.pc) ∧ w'.cell? ⟨b, off + k2 * 11 + 5, none⟩ = some (.int .i64 x.cut) ∧ w'.cell? ⟨b, off + k2 * 11 + 6, none⟩ = some (.int .i64 x.mark) ∧ w'.cell? ⟨b, off + k2 * 11 + 7, none⟩ = some (.int .i64 x.top) ∧ w'.cell? ⟨b, off + k2 * 11 + 8, none⟩ = some (.int .i64 x.envs) ∧ w'.cell? ⟨b, off + k2 * 11 + 9, none⟩ = some (.slice Az x.alts.length cz) ∧ w'.cell? ⟨b, off + k2 * 11 + 10, none⟩ = some (.int .i64 x.data)) (w6.alloc (.cells #[.int .i64 x.kind, .slice Av x.args.length av, .int .i64 x.env, .int .i64 x.id, .int .i64 x.pc, .int .i64 x.cut, .int .i64 x.mark, .int .i64 x.top, .int .i64 x.envs, .slice Bv x.alts.length bv, .int .i64 x.data] 29)) := ⟨hS6.1.alloc _, hS6.2.1.alloc _, (World.cell?_alloc_lt _ _ _ hrl6).trans hS6.2.2.1, (World.cell?_alloc_lt _ _ _ hrl6).trans hS6.2.2.2.1, (World.cell?_alloc_lt _ _ _ hrl6).trans hS6.2.2.2.2.1, (World.cell?_alloc_lt _ _ _ hrl6).trans hS6.2.2.2.2.2.1, (World.cell?_alloc_lt _ _ _ hrl6).trans hS6.2.2.2.2.2.2.1, (World.cell?_alloc_lt _ _ _ hrl6).trans hS6.2.2.2.2.2.2.2.1, (World.cell?_alloc_lt _ _ _ hrl6).trans hS6.2.2.2.2.2.2.2.2.1, (World.cell?_alloc_lt _ _ _ hrl6).trans hS6.2.2.2.2.2.2.2.2.2.1, (World.cell?_alloc_lt _ _ _ hrl6).trans hS6.2.2.2.2.2.2.2.2.2.2.1, (World.cell?_alloc_lt _ _ _ hrl6).trans hS6.2.2.2.2.2.2.2.2.2.2.2.1, (World.cell?_alloc_lt _ _ _ hrl6).trans hS6.2.2.2.2.2.2.2.2.2.2.2.2⟩
          refine hK _ _ (fun _ => hS7) ?_
          (try simp only [Act.put, List.setIfInBounds_toArray, List.set_cons_zero, List.set_cons_succ])
          have hX7 : B ≤ w6.heap.size := Nat.le_trans hBw HI6.out.size
          refine wpAnyN_one (i := 9) (by kernel_rfl) rfl (fun K hK => ?_)
          simp only [List.getElem_toArray, List.getElem_cons_zero, List.getElem_cons_succ]
          rw [if_pos (by rfl)]
          have hblk := Blk.new w6 29 #[.int .i64 x.kind, .slice Av x.args.length av, .int .i64 x.env, .int .i64 x.id, .int .i64 x.pc, .int .i64 x.cut, .int .i64 x.mark, .int .i64 x.top, .int .i64 x.envs, .slice Bv x.alts.length bv, .int .i64 x.data]
          have hrw := HS6.out.chs.alloc (.cells #[.int .i64 x.kind, .slice Av x.args.length av, .int .i64 x.env, .int .i64 x.id, .int .i64 x.pc, .int .i64 x.cut, .int .i64 x.mark, .int .i64 x.top, .int .i64 x.envs, .slice Bv x.alts.length bv, .int .i64 x.data] 29)
          rw [show (⟨_, s.e, _⟩ : St).chs.length = k2 from HLEN.out] at hrw
          refine wp_append_lies _ _ _ 23 rfl B 29 j2 _ 11 120 Try.underlying23 hi2 hz2 hy2 hb2' rfl (by decide) (.slice Ve k2 cve) k2 (hCs (s.chs.take k2) cs) rfl hrw ⟨w6.heap.size, 0, none⟩ 1 1 (hCs [x] [(.slice Av x.args.length av, .slice Bv x.alts.length bv)]) rfl ?d1 ?d2 ?d3 (by omega) ?d4 ?d5 ?d6 _ rfl ?_
          case d1 => rfl
          case d2 =>
            intro i u hi
            have h := hblk.cell i
            have e : (⟨w6.heap.size, 0, none⟩ : Addr).add i = ⟨w6.heap.size, i, none⟩ := by cases i <;> simp [Addr.add]
            rw [e]
            exact h.trans (by simpa [hCs] using hi)
          case d3 =>
            intro u hu
            simp only [hCs, List.mem_cons, List.not_mem_nil, or_false] at hu
            rcases hu with rfl | rfl | rfl | rfl | rfl | rfl | rfl | rfl | rfl | rfl | rfl <;> rfl
          case d4 => unfold maxLen; omega
          case d5 => omega
          case d6 => simp; omega
          intro gD e8 w8 ho8 hg8 hat8 hlt8
          have hgp : Value.ownBlock (.slice Ve k2 cve) ≠ some t := fun e => own_ne HS6.out.chs HS6.out.box (by decide) e rfl
          have hgq : Value.ownBlock (.slice Ve k2 cve) ≠ some q := fun e => own_ne HS6.out.chs HQ6.out (by decide) e rfl
          have hgr : Value.ownBlock (.slice Ve k2 cve) ≠ some r := fun e => own_ne HS6.out.chs HR6.out (by decide) e rfl
          have k8 : Blk w8 t 25 _ := Blk.grown hS7.1 hg8 hgp
          have kq8 : Blk w8 q 25 _ := Blk.grown hS7.2.1 hg8 hgq
          have hwb : ∀ g, Value.ownBlock (.slice Ve k2 cve) = some g → w.heap.size ≤ g := fun g hg => by have h1 := (HS6.out.chs.lt g hg).1; have h2 := hB.out; omega
          have hgb : some b ≠ Value.ownBlock (.slice Ve k2 cve) := fun e => by have h1 := hwb b e.symm; omega
          have f0 := k8.frozen 2
          have g0 := k8.cell 2
          have l8 := k8.lt
          simp at g0
          refine hK _ _ (fun _ => ⟨k8, kq8, (hg8.cell_far _ (by simp; omega) hgb).trans hS7.2.2.1, (hg8.cell_far _ (by simp; omega) hgb).trans hS7.2.2.2.1, (hg8.cell_far _ (by simp; omega) hgb).trans hS7.2.2.2.2.1, (hg8.cell_far _ (by simp; omega) hgb).trans hS7.2.2.2.2.2.1, (hg8.cell_far _ (by simp; omega) hgb).trans hS7.2.2.2.2.2.2.1, (hg8.cell_far _ (by simp; omega) hgb).trans hS7.2.2.2.2.2.2.2.1, (hg8.cell_far _ (by simp; omega) hgb).trans hS7.2.2.2.2.2.2.2.2.1, (hg8.cell_far _ (by simp; omega) hgb).trans hS7.2.2.2.2.2.2.2.2.2.1, (hg8.cell_far _ (by simp; omega) hgb).trans hS7.2.2.2.2.2.2.2.2.2.2.1, (hg8.cell_far _ (by simp; omega) hgb).trans hS7.2.2.2.2.2.2.2.2.2.2.2.1, (hg8.cell_far _ (by simp; omega) hgb).trans hS7.2.2.2.2.2.2.2.2.2.2.2.2⟩) ?_
          (try simp only [Act.put, List.setIfInBounds_toArray, List.set_cons_zero, List.set_cons_succ])
          refine wpAnyN_one (i := 10) (by kernel_rfl) rfl (fun K hK => ?_)
          simp only [List.getElem_toArray, List.getElem_cons_zero, List.getElem_cons_succ]
          go_simp
          refine hK _ _ (fun h => absurd h (by decide)) ?_
          (try simp only [Act.put, List.setIfInBounds_toArray, List.set_cons_zero, List.set_cons_succ])
          refine wpAnyN_one (i := 11) (by kernel_rfl) rfl (fun K hK => ?_)
          simp only [List.getElem_toArray, List.getElem_cons_zero, List.getElem_cons_succ]
          go_simp
          refine hK _ _ (fun h => absurd h (by decide)) ?_
          (try simp only [Act.put, List.setIfInBounds_toArray, List.set_cons_zero, List.set_cons_succ])
          refine wpAnyN_done (by kernel_rfl) ?_ _
          have hbF := k8.set_ 2 (.slice (some ⟨gD, 0, none⟩) (k2 + 1) e8)
          have huF := (Upd.refl t w8).set 2 (.slice (some ⟨gD, 0, none⟩) (k2 + 1) e8)
          obtain ⟨WF, HWF⟩ : ∃ X, Hid (X = w8.setCell ⟨t, 2, none⟩ (.slice (some ⟨gD, 0, none⟩) (k2 + 1) e8)) := ⟨_, rfl⟩
          rw [← HWF.out] at hbF huF ⊢
          have hz : ∀ i, i < w6.heap.size → i ≠ t → some i ≠ Value.ownBlock (.slice Ve k2 cve) → WF.heap[i]? = w6.heap[i]? := fun i h1 h2 h3 =>
            (huF.block i h2).trans ((hg8.block i (by simp; omega) h3).trans (Below.heap_alloc w6 _ i h1))
          have hIF : Below w.heap.size w WF := huF.below ((HI6.out.alloc HI6.out.size _).grown hg8 (by have := HI6.out.size; simp; omega) hwb) hwt
          have hrow : ∀ {t' size n B' : Nat} {v : Value} {xs : List Value}, w6.ownsRow B' t' size v n xs → t' ≠ 25 → t' ≠ 29 → WF.ownsRow B' t' size v n xs := fun h1 t1 t2 =>
            own_stay h1 fun i hi => hz i (h1.lt i hi).2 (own_ne h1 HS6.out.box t1 hi) (own_apart h1 HS6.out.chs t2 hi)
          have hP := HS6.out.pushed (w' := WF) (va := .slice Av x.args.length av) (vb := .slice Bv x.alts.length bv) (vc' := (.slice (some ⟨gD, 0, none⟩) (k2 + 1) e8)) (x := x) (b := X0.heap.size) HFL.out
            (fun v hv k hk => by
              obtain ⟨t', size, n, xs, h1, t1, t2⟩ := HS6.out.typed hv
              exact hz k (h1.lt k hk).2 (own_ne h1 HS6.out.box t1 hk) (own_apart h1 HS6.out.chs t2 hk))
            (by simpa using hbF) (by rw [show (⟨_, s.e, _⟩ : St).chs.length = k2 from HLEN.out]; exact own_stay ho8 fun i hi => huF.block i (own_ne ho8 k8 (by decide) hi))
            (own_base (hrow hv (by decide) (by decide)) (Nat.le_trans hBw HI0.out.size)) (own_base (hrow hv' (by decide) (by decide)) (Nat.le_trans hBw HI0.out.size)) (fun i hi => (hv.lt i hi).1) (fun i hi => (hv'.lt i hi).1)
          rw [show (⟨s.envs, s.e, List.take k2 s.chs⟩ : St).chs ++ [x] = s.chs.take (k2 + 1) from (take_more HX.out).symm] at hP
          have HP := Lib.hid hP
          have HIF := Lib.hid hIF
          have HQF := Lib.hid (show Blk WF q 25 _ from (hz q HQ6.out.lt hqt (fun e => hgq e.symm)).trans HQ6.out)
          have HRF := Lib.hid (show Blk WF r 25 _ from (hz r HR6.out.lt hrt (fun e => hgr e.symm)).trans HR6.out)
          clear hP hIF hz hrow hbF huF HWF k8 kq8 ho8 hg8 hat8 hS0 hS6 hS7 hblk hrw f0 g0
          go_wp2_with fail
          exact ⟨⟨k2 + 1, by omega, by go_num, HIF, HQF, HRF, _, _, HP⟩, by simp [intOf]; omega⟩
        · obtain rfl : k2 = s.chs.length := by omega
          rw [List.take_length] at HST
          obtain ⟨D, d, e1, -⟩ := own_form HST.out.envs
          obtain ⟨D', d', e2, -⟩ := own_form HST.out.chs
          subst e1 e2
          have t0 := HST.out.box.cell 0
          have t1 := HST.out.box.cell 1
          have t2 := HST.out.box.cell 2
          have tl := HST.out.box.lt
          have r0 := HR.out.cell 0
          have r1 := HR.out.cell 1
          have r2 := HR.out.cell 2
          have p0 := HR.out.frozen 0
          have p1 := HR.out.frozen 1
          have p2 := HR.out.frozen 2
          have rl := HR.out.lt
          simp at t0 t1 t2 r0 r1 r2
          have HNF := Lib.hid (HST.out.foot_ne HR.out hrt)
          go_wp2_with fail
          refine bodyPost_ret (v := .agg #[.slice D s.envs.length d, .int .i64 s.e, .slice D' s.chs.length d']) (by simp only [results, Try.results10]; go_simp) rfl ?_
          have hu := (((Upd.refl r wr).set 0 (.slice D s.envs.length d)).set 1 (.int .i64 s.e)).set 2 (.slice D' s.chs.length d')
          have hF := (HST.out.stayF fun g hg => hu.block g fun e => HNF.out (e ▸ hg)).val
          rw [← hB.out]
          exact ⟨⟨_, _, _, _, rfl, hF⟩, by rw [hB.out]; exact hu.below HI.out hwr⟩
end Go.Proofs.Ytpkpffnabcgcbaa
