/-
  What a call leaves, the popped rows apart (StO); the reference's Pop.
-/
import Derived.Test.YtpkpffnabcgcbaaPg
namespace Go.Proofs.Ytpkpffnabcgcbaa
open Go.RowKit

/-- stacks behind a pointer, and the rows of a choice point that lie apart from them -/
def StO (w : World) (B p : Nat) (F : List Nat) (b : Nat) (s : St) (x : Ch) (oc : Value × Value) : Prop := ∃ ve vc ys cs, Stk w B p s ve vc ys cs ∧ (∀ g ∈ foot p ve vc ys cs, g ∈ F ∨ b ≤ g) ∧
  w.ownsRow 0 38 2 oc.1 x.args.length (cCs x.args) ∧ w.ownsRow 0 2 1 oc.2 x.alts.length (iCs x.alts) ∧ ∀ g, (oc.1.ownBlock = some g ∨ oc.2.ownBlock = some g) → g ∉ foot p ve vc ys cs ∧ (g ∈ F ∨ b ≤ g)
theorem StO.nil {w : World} {B p b : Nat} {F : List Nat} {s : St} (h : StF w B p F b s) : StO w B p F b s chO (.slice none 0 0, .slice none 0 0) := by
  obtain ⟨ve, vc, ys, cs, h1, h2⟩ := h
  exact ⟨ve, vc, ys, cs, h1, h2, World.ownsRow_nil _ _ _ _, World.ownsRow_nil _ _ _ _, fun g hg => by rcases hg with h | h <;> cases h⟩
theorem StO.st {w : World} {B p b : Nat} {F : List Nat} {s : St} {x : Ch} {oc : Value × Value} (h : StO w B p F b s x oc) : StF w B p F b s := by
  obtain ⟨ve, vc, ys, cs, h1, h2, -⟩ := h
  exact ⟨ve, vc, ys, cs, h1, h2⟩
theorem StO.upd {w w' : World} {B p q b b' : Nat} {F : List Nat} {s : St} {x : Ch} {oc : Value × Value} (h : StO w B p F b s x oc) (hu : Upd q w w') (hq : q ∉ F) (hqb : q < b) (hb : b' ≤ b) : StO w' B p F b' s x oc := by
  obtain ⟨ve, vc, ys, cs, hs, hf, ha, hb2, hap⟩ := h
  have hne : ∀ g, (g ∈ F ∨ b ≤ g) → g ≠ q := fun g hg e => by
    subst e
    rcases hg with h1 | h1
    · exact hq h1
    · omega
  exact ⟨ve, vc, ys, cs, hs.stayF fun g hg => hu.block g (hne g (hf g hg)), fun g hg => (hf g hg).imp id fun h => Nat.le_trans hb h,
    own_stay ha fun g hg => hu.block g (hne g (hap g (.inl hg)).2), own_stay hb2 fun g hg => hu.block g (hne g (hap g (.inr hg)).2), fun g hg => ⟨(hap g hg).1, (hap g hg).2.imp id fun h => Nat.le_trans hb h⟩⟩
/-- behind the reference's drop -/
theorem dropped_ref2 {w w1 w' : World} {B p : Nat} {s : St} {A A' : Option Addr} {c c' j : Nat} {ys : List Value} {cs : List (Value × Value)} (h : Stk w B p s (.slice A s.envs.length c) (.slice A' j c') ys cs) (hb1 : Below w.heap.size w w1) (hu : Upd p w1 w')
    (_ : Value.slice A' j c' = .slice A' s.chs.length c') (hb : Blk w' p 25 #[.slice A (keepN s) c, .int .i64 s.e, (.slice A' j c')]) : Stk w' B p (dropV s) (.slice A (keepN s) c) (.slice A' j c') (ys.take (keepN s)) cs := (h.next hb1).dropped hu hb
theorem cut_block {A : Option Addr} {n m c d : Nat} {g : Nat} (h : (Value.slice A n c).ownBlock = some g) : (Value.slice A m d).ownBlock = some g := by cases A <;> exact h
/-- the rows of the last choice point lie apart from what stays -/
theorem Stk.popped {w : World} {B p n : Nat} {s : St} {A A' : Option Addr} {k j c c' : Nat} {ys : List Value} {cs : List (Value × Value)} (h : Stk w B p s (.slice A k c) (.slice A' j c') ys cs) {x : Ch} {v : Value × Value} (hx : s.chs[n]? = some x) (hv : cs[n]? = some v) :
    ∀ g, (v.1.ownBlock = some g ∨ v.2.ownBlock = some g) → g ∈ foot p (.slice A k c) (.slice A' j c') ys cs ∧ ∀ m k' j', g ∉ foot p (.slice A k' c) (.slice A' j' c') (ys.take m) (cs.take n) := by
  intro g hg
  have hcl := (List.getElem?_eq_some_iff.1 hv).1
  obtain ⟨r1, r2⟩ := h.crow n x v hx hv
  have hi1 : (ys ++ cs.map (·.1) ++ cs.map (·.2))[ys.length + n]? = some v.1 := by
    rw [List.getElem?_append_left (by simp; exact hcl), List.getElem?_append_right (by omega), Nat.add_sub_cancel_left, List.getElem?_map, hv]
    rfl
  have hi2 : (ys ++ cs.map (·.1) ++ cs.map (·.2))[ys.length + cs.length + n]? = some v.2 := by
    rw [List.getElem?_append_right (by simp)]
    simp only [List.length_append, List.length_map]
    rw [Nat.add_sub_cancel_left, List.getElem?_map, hv]
    rfl
  have hin : g ∈ foot p (.slice A k c) (.slice A' j c') ys cs := by
    rcases hg with h1 | h1
    · exact foot_mem (List.mem_append_left _ (List.mem_append_right _ (List.mem_map.2 ⟨v, List.mem_of_getElem? hv, rfl⟩))) h1
    · exact foot_mem (List.mem_append_right _ (List.mem_map.2 ⟨v, List.mem_of_getElem? hv, rfl⟩)) h1
  refine ⟨hin, fun m k' j' hf => ?_⟩
  obtain ⟨ig, ug, hig, hug, hge⟩ : ∃ i u, (ys ++ cs.map (·.1) ++ cs.map (·.2))[i]? = some u ∧ u.ownBlock = some g ∧ (i = ys.length + n ∨ i = ys.length + cs.length + n) := by
    rcases hg with h1 | h1
    · exact ⟨_, _, hi1, h1, .inl rfl⟩
    · exact ⟨_, _, hi2, h1, .inr rfl⟩
  have hap : ∀ {t size l : Nat} {u : Value} {xs : List Value}, w.ownsRow B t size u l xs → t ≠ 38 → t ≠ 2 → u.ownBlock ≠ some g := fun h1 t1 t2 e => by
    rcases hg with h2 | h2
    · exact own_apart h1 r1 t1 e h2.symm
    · exact own_apart h1 r2 t2 e h2.symm
  have hone : ∀ i u, (ys ++ cs.map (·.1) ++ cs.map (·.2))[i]? = some u → u.ownBlock = some g → i = ys.length + n ∨ i = ys.length + cs.length + n := fun i u hi hu => by
    have := blks_once h.nodup hi hig hu hug
    omega
  rcases List.mem_cons.1 hf with rfl | hf
  · rcases hg with h1 | h1
    · exact own_ne r1 h.box (by decide) h1 rfl
    · exact own_ne r2 h.box (by decide) h1 rfl
  · obtain ⟨u, hu, e⟩ := List.mem_filterMap.1 hf
    simp only [List.cons_append, List.mem_cons, List.mem_append] at hu
    rcases hu with rfl | rfl | ((hu | hu) | hu)
    · exact hap h.envs (by decide) (by decide) (cut_block e)
    · exact hap h.chs (by decide) (by decide) (cut_block e)
    · obtain ⟨i, hi⟩ := List.mem_iff_getElem?.1 (List.mem_of_mem_take hu)
      have hl := (List.getElem?_eq_some_iff.1 hi).1
      have := hone i u (by rw [List.append_assoc, List.getElem?_append_left hl]; exact hi) e
      omega
    · obtain ⟨z, hz, rfl⟩ := List.mem_map.1 hu
      obtain ⟨i, hi⟩ := List.mem_iff_getElem?.1 hz
      rw [List.getElem?_take] at hi
      split at hi
      · rename_i hlt
        have := hone (ys.length + i) z.1 (by rw [List.getElem?_append_left (by simp; omega), List.getElem?_append_right (by omega), Nat.add_sub_cancel_left, List.getElem?_map, hi]; rfl) e
        omega
      · cases hi
    · obtain ⟨z, hz, rfl⟩ := List.mem_map.1 hu
      obtain ⟨i, hi⟩ := List.mem_iff_getElem?.1 hz
      rw [List.getElem?_take] at hi
      split at hi
      · rename_i hlt
        have := hone (ys.length + cs.length + i) z.2 (by rw [List.getElem?_append_right (by simp)]; simp only [List.length_append, List.length_map]; rw [Nat.add_sub_cancel_left, List.getElem?_map, hi]; rfl) e
        omega
      · cases hi
set_option maxHeartbeats 2000000 in
theorem Pop_no {B p : Nat} {s : St} {ve vc : Value} {ys : List Value} {cs : List (Value × Value)} (w : World) (h : Stk w B p s ve vc ys cs) (hc : s.chs = []) :
    Calls Try.prog 49 #[.pointer (some ⟨p, 0, none⟩)] w (RetP B p (foot p ve vc ys cs) (.tuple #[chZ, .int .i64 5]) s w) := by
  obtain ⟨A', c', rfl, -⟩ := own_form h.chs
  have hn : s.chs.length = 0 := by rw [hc]; rfl
  obtain ⟨c0, c1, c2⟩ := h.cells
  rw [hn] at c2
  have hl := h.box.lt
  have H := Lib.hid h
  clear h hc hn
  go_enter Try.func49, Try.ntmps49
  go_wp2_with fail
  refine bodyPost_ret (v := .tuple #[chZ, .int .i64 5]) (by simp only [results, Try.results49]; go_simp) rfl ?_
  exact ⟨rfl, ⟨_, _, _, _, H.out.next (bAlloc _ _), fun g hg => .inl hg⟩, Kept.below (bAlloc _ _)⟩
set_option maxHeartbeats 8000000 in
theorem Pop_any {B p n : Nat} {s : St} {x : Ch} {v : Value × Value} {ve vc : Value} {ys : List Value} {cs : List (Value × Value)} (w : World) (h : Stk w B p s ve vc ys cs) (g : Good s) (hlen : s.chs.length = n + 1) (hx : s.chs[n]? = some x) (hv : cs[n]? = some v)
    (hla : x.args.length ≤ 8796093022208) (hlb : x.alts.length ≤ 17592186044416) :
    Calls Try.prog 49 #[.pointer (some ⟨p, 0, none⟩)] w fun e w' => ∃ oc, e = .returned (.tuple #[chV x oc, .int .i64 0]) ∧ StO w' B p (foot p ve vc ys cs) w.heap.size (popV s n x) x oc ∧ Kept (foot p ve vc ys cs) w w' := by
  have hn := g.sized.envs
  have hnc := g.sized.chs
  have hxo := g.chOk n x hx
  have hxe : x.env ≤ s.envs.length := by
    have h1 := hxo.2
    have h2 := g.high
    rw [protV_at hlen hx] at h2
    omega
  have hpr := prot_cut g hxo.1 hxe n
  obtain ⟨A, c, rfl, -⟩ := own_form h.envs
  obtain ⟨gc, cap, v', rfl, hcap, hv', k0, k1, k2, k3, k4, k5, k6, k7, k8, k9, k10⟩ := h.chAt hx
  obtain rfl : v' = v := by rw [hv] at hv'; injection hv' with e; exact e.symm
  obtain ⟨r1, r2⟩ := h.crow n x v' hx hv
  obtain ⟨va, vb⟩ := v'
  dsimp only at k1 k9 r1 r2
  obtain ⟨Aa, ca, rfl, hca⟩ := own_form r1
  obtain ⟨Ab, cb, rfl, hcb⟩ := own_form r2
  obtain ⟨W, HW⟩ : ∃ W, Hid (W = w.alloc (.cells #[.int .i64 0, .slice none 0 0, .int .i64 0, .int .i64 0, .int .i64 0, .int .i64 0, .int .i64 0, .int .i64 0, .int .i64 0, .slice none 0 0, .int .i64 0] 29)) := ⟨_, rfl⟩
  have hbW : Below w.heap.size w W := by rw [HW.out]; exact bAlloc _ _
  obtain ⟨q, hq⟩ : ∃ q, Hid (q = w.heap.size) := ⟨_, rfl⟩
  have hkW : Blk W q 29 #[.int .i64 0, .slice none 0 0, .int .i64 0, .int .i64 0, .int .i64 0, .int .i64 0, .int .i64 0, .int .i64 0, .int .i64 0, .slice none 0 0, .int .i64 0] := by rw [HW.out, hq.out]; exact Blk.new _ _ _
  have hs := h.next hbW
  have hgl := (h.chs.lt gc rfl).2
  have k0 := (hbW.cell (p := ⟨gc, n * 11, none⟩) hgl).trans k0
  have k1 := (hbW.cell (p := ⟨gc, n * 11 + 1, none⟩) hgl).trans k1
  have k2 := (hbW.cell (p := ⟨gc, n * 11 + 2, none⟩) hgl).trans k2
  have k3 := (hbW.cell (p := ⟨gc, n * 11 + 3, none⟩) hgl).trans k3
  have k4 := (hbW.cell (p := ⟨gc, n * 11 + 4, none⟩) hgl).trans k4
  have k5 := (hbW.cell (p := ⟨gc, n * 11 + 5, none⟩) hgl).trans k5
  have k6 := (hbW.cell (p := ⟨gc, n * 11 + 6, none⟩) hgl).trans k6
  have k7 := (hbW.cell (p := ⟨gc, n * 11 + 7, none⟩) hgl).trans k7
  have k8 := (hbW.cell (p := ⟨gc, n * 11 + 8, none⟩) hgl).trans k8
  have k9 := (hbW.cell (p := ⟨gc, n * 11 + 9, none⟩) hgl).trans k9
  have k10 := (hbW.cell (p := ⟨gc, n * 11 + 10, none⟩) hgl).trans k10
  have HOWN := Lib.hid (ownChoice_any Aa Ab ca cb x W hca hcb ((own_cellsAt r1).next hbW) ((own_intsAt r2).next hbW) hla hlb)
  obtain ⟨c0, c1, c2⟩ := hs.cells
  have hgl2 := (hs.chs.lt gc rfl).2
  have hl := hs.box.lt
  have f1 := hs.box.frozen 1
  have f2 := hs.box.frozen 2
  rw [hlen] at c2 hcap
  have HS := Lib.hid hs
  have HB := Lib.hid hbW
  have HK := Lib.hid hkW
  have HFL := Lib.hid h.foot_lt
  have hqw : w.heap.size ≤ q := by rw [hq.out]; exact Nat.le_refl _
  have hqW : q < W.heap.size := HK.out.lt
  have hpq : p ≠ q := by have := HFL.out p List.mem_cons_self; omega
  have HPR := Lib.hid hpr
  have hnI : (n : Int) < (n : Int) + 1 := by omega
  have hw1 : IntKind.i64.wrap (n : Int) = (n : Int) := by rw [IntKind.wrap_i64]; omega
  clear h hs hbW hkW hv' r1 r2 hca hcb hpr hxo
  go_enter Try.func49, Try.ntmps49
  go_upto_region 1 with fail
  rw [← HW.out]
  try rw [← hq.out]
  clear HW
  go_wp2_with fail
  refine HOWN.out.mono ?_
  rintro e w1 ⟨⟨va, vb, rfl, hva, hvb⟩, hb1⟩
  obtain ⟨Va, da, rfl, -⟩ := own_form hva
  obtain ⟨Vb, db, rfl, -⟩ := own_form hvb
  have HVA := Lib.hid hva
  have HVB := Lib.hid hvb
  have HB1 := Lib.hid hb1
  have hs1 := HS.out.next hb1
  clear c0 c1 c2 hl f1 f2
  obtain ⟨c0, c1, c2⟩ := hs1.cells
  rw [hlen] at c2
  have hl := hs1.box.lt
  have f1 := hs1.box.frozen 1
  have f2 := hs1.box.frozen 2
  have HS1 := Lib.hid hs1
  clear hva hvb hb1 HOWN hs1 k0 k1 k2 k3 k4 k5 k6 k7 k8 k9 k10
  go_upto_region 9 with fail
  have hu1 := ((Upd.refl p w1).set 2 (.slice (some ⟨gc, 0, none⟩) n cap)).set 1 (.int .i64 x.env)
  have hx1 := (HS1.out.box.set_ 2 (.slice (some ⟨gc, 0, none⟩) n cap)).set_ 1 (.int .i64 x.env)
  obtain ⟨W1, HW1⟩ : ∃ X, Hid (X = (w1.setCell ⟨p, 2, none⟩ (.slice (some ⟨gc, 0, none⟩) n cap)).setCell ⟨p, 1, none⟩ (.int .i64 x.env)) := ⟨_, rfl⟩
  rw [← HW1.out] at hu1 hx1
  have hs1 := HS1.out.boxed hu1 rfl rfl (Nat.le_refl _) (by omega : n ≤ s.chs.length) (e := x.env) (by simpa using hx1)
  have hy : ys.take s.envs.length = ys := by rw [← HS1.out.ylen, List.take_length]
  rw [List.take_length, hy] at hs1
  have hnl : (s.chs.take n).length = n := by rw [List.length_take]; omega
  obtain ⟨W2, HW2⟩ : ∃ X, Hid (X = W1.alloc (.cells #[.int .i64 x.kind, .slice Va x.args.length da, .int .i64 x.env, .int .i64 x.id, .int .i64 x.pc, .int .i64 x.cut, .int .i64 x.mark, .int .i64 x.top, .int .i64 x.envs, .slice Vb x.alts.length db, .int .i64 x.data] 29)) := ⟨_, rfl⟩
  have hb2 : Below W1.heap.size W1 W2 := by rw [HW2.out]; exact bAlloc _ _
  have hk2 : Blk W2 W1.heap.size 29 #[.int .i64 x.kind, .slice Va x.args.length da, .int .i64 x.env, .int .i64 x.id, .int .i64 x.pc, .int .i64 x.cut, .int .i64 x.mark, .int .i64 x.top, .int .i64 x.envs, .slice Vb x.alts.length db, .int .i64 x.data] := by rw [HW2.out]; exact Blk.new _ _ _
  have hs2 := hs1.next hb2
  have hpr := HPR.out
  have hd := Drop_any W2 hs2 hn (by show (s.chs.take n).length ≤ _; omega) hpr.1 hpr.2
  have hz1 : W1.heap.size = w1.heap.size := hu1.size
  rw [hz1] at hk2
  have kq1 : Blk W1 q 29 #[.int .i64 0, .slice none 0 0, .int .i64 0, .int .i64 0, .int .i64 0, .int .i64 0, .int .i64 0, .int .i64 0, .int .i64 0, .slice none 0 0, .int .i64 0] := (hu1.block q (Ne.symm hpq)).trans (HK.out.next HB1.out)
  have KQ2 := Lib.hid (kq1.next hb2)
  obtain ⟨q5, hq5⟩ : ∃ q, Hid (q = w1.heap.size) := ⟨_, rfl⟩
  rw [← hq5.out] at hk2
  have hw1s : W.heap.size ≤ q5 := by rw [hq5.out]; exact HB1.out.size
  have hp5 : q5 ≠ p := by have := HS.out.box.lt; omega
  have hq5q : q5 ≠ q := by omega
  have HD := Lib.hid hd
  have HS2 := Lib.hid hs2
  have HU1 := Lib.hid hu1
  have HB2 := Lib.hid hb2
  have HK2 := Lib.hid hk2
  have HZ1 := Lib.hid hz1
  clear hu1 hx1 hs1 hy hb2 hk2 hs2 hd hz1 kq1 hpr c0 c1 c2 f1 f2
  rw [← HW1.out, ← HW2.out]
  try rw [← hq5.out]
  clear HW1 HW2
  go_wp2_with fail
  refine HD.out.mono ?_
  rintro e w3 ⟨rfl, hb3, wm, hbm, hu3⟩
  have HS3 := Lib.hid (dropped_ref2 HS2.out hbm hu3 (by show _ = Value.slice (some ⟨gc, 0, none⟩) (s.chs.take n).length cap; rw [hnl]) hb3)
  have HU3 := Lib.hid hu3
  have HBM := Lib.hid hbm
  have k5' : Blk w3 q5 29 #[.int .i64 x.kind, .slice Va x.args.length da, .int .i64 x.env, .int .i64 x.id, .int .i64 x.pc, .int .i64 x.cut, .int .i64 x.mark, .int .i64 x.top, .int .i64 x.envs, .slice Vb x.alts.length db, .int .i64 x.data] := (hu3.block _ hp5).trans (HK2.out.next hbm)
  have kq' : Blk w3 q 29 #[.int .i64 0, .slice none 0 0, .int .i64 0, .int .i64 0, .int .i64 0, .int .i64 0, .int .i64 0, .int .i64 0, .int .i64 0, .slice none 0 0, .int .i64 0] := (hu3.block _ (Ne.symm hpq)).trans (KQ2.out.next hbm)
  have k0 := k5'.cell 0
  have z0 := kq'.cell 0
  have f0 := kq'.frozen 0
  have k1 := k5'.cell 1
  have z1 := kq'.cell 1
  have f1 := kq'.frozen 1
  have k2 := k5'.cell 2
  have z2 := kq'.cell 2
  have f2 := kq'.frozen 2
  have k3 := k5'.cell 3
  have z3 := kq'.cell 3
  have f3 := kq'.frozen 3
  have k4 := k5'.cell 4
  have z4 := kq'.cell 4
  have f4 := kq'.frozen 4
  have k5 := k5'.cell 5
  have z5 := kq'.cell 5
  have f5 := kq'.frozen 5
  have k6 := k5'.cell 6
  have z6 := kq'.cell 6
  have f6 := kq'.frozen 6
  have k7 := k5'.cell 7
  have z7 := kq'.cell 7
  have f7 := kq'.frozen 7
  have k8 := k5'.cell 8
  have z8 := kq'.cell 8
  have f8 := kq'.frozen 8
  have k9 := k5'.cell 9
  have z9 := kq'.cell 9
  have f9 := kq'.frozen 9
  have k10 := k5'.cell 10
  have z10 := kq'.cell 10
  have f10 := kq'.frozen 10
  simp at k0 z0 k1 z1 k2 z2 k3 z3 k4 z4 k5 z5 k6 z6 k7 z7 k8 z8 k9 z9 k10 z10
  have l5 := k5'.lt
  have lq := kq'.lt
  clear hu3 hb3 hbm
  go_wp2_with fail
  refine bodyPost_ret (v := .tuple #[.agg #[.int .i64 x.kind, .slice Va x.args.length da, .int .i64 x.env, .int .i64 x.id, .int .i64 x.pc, .int .i64 x.cut, .int .i64 x.mark, .int .i64 x.top, .int .i64 x.envs, .slice Vb x.alts.length db, .int .i64 x.data], .int .i64 0]) (by simp only [results, Try.results49]; go_simp) rfl ?_
  have hu4 := ((((((((((((Upd.refl q w3).set 0 (.int .i64 x.kind)).set 1 (.slice Va x.args.length da)).set 2 (.int .i64 x.env)).set 3 (.int .i64 x.id)).set 4 (.int .i64 x.pc)).set 5 (.int .i64 x.cut)).set 6 (.int .i64 x.mark)).set 7 (.int .i64 x.top)).set 8 (.int .i64 x.envs)).set 9 (.slice Vb x.alts.length db)).set 10 (.int .i64 x.data))
  have hfin : ∀ k, k < W.heap.size → k ≠ p → k ≠ q → _ := fun k h1 h2 h3 =>
    (hu4.block k h3).trans ((HU3.out.block k h2).trans ((HBM.out.block k (by have := HB1.out.size; have := HB2.out.size; have := HZ1.out; omega)).trans ((HB2.out.block k (by have := HB1.out.size; have := HZ1.out; omega)).trans ((HU1.out.block k h2).trans (HB1.out.block k h1)))))
  have hrow : ∀ k, W.heap.size ≤ k → k < w1.heap.size → _ := fun k h1 h2 =>
    (hu4.block k (by omega)).trans ((HU3.out.block k (by have := HS.out.box.lt; omega)).trans ((HBM.out.block k (by have := HB2.out.size; have := HZ1.out; omega)).trans ((HB2.out.block k (by have := HZ1.out; omega)).trans (HU1.out.block k (by have := HS.out.box.lt; omega)))))
  have hsub : ∀ k ∈ foot p (.slice A (keepN ⟨s.envs, x.env, s.chs.take n⟩) c) (.slice (some ⟨gc, 0, none⟩) n cap) (ys.take (keepN ⟨s.envs, x.env, s.chs.take n⟩)) (cs.take n), k ∈ foot p (.slice A s.envs.length c) (.slice (some ⟨gc, 0, none⟩) s.chs.length cap) ys cs := fun k hk => foot_sub _ _ k hk
  refine ⟨(.slice Va x.args.length da, .slice Vb x.alts.length db), rfl, ⟨_, _, _, _, HS3.out.stayF fun k hk => hu4.block k (by have := HFL.out k (hsub k hk); omega), fun k hk => .inl (hsub k hk), own_base (own_stay HVA.out fun k hk => hrow k (HVA.out.lt k hk).1 (HVA.out.lt k hk).2) (Nat.zero_le _), own_base (own_stay HVB.out fun k hk => hrow k (HVB.out.lt k hk).1 (HVB.out.lt k hk).2) (Nat.zero_le _), fun k hk => ?_⟩, ?_⟩
  · have h1 : W.heap.size ≤ k := by
      rcases hk with hk | hk
      · exact (HVA.out.lt k hk).1
      · exact (HVB.out.lt k hk).1
    exact ⟨fun hf => by have := HFL.out k (hsub k hf); have := HB.out.size; omega, .inr (by have := HB.out.size; omega)⟩
  · exact (((((Kept.below (bNext HB.out HB1.out)).trans (Kept.upd HU1.out List.mem_cons_self)).trans (Kept.below HB2.out)).trans (Kept.below HBM.out)).trans (Kept.upd HU3.out List.mem_cons_self)).updNew hu4 hqw
end Go.Proofs.Ytpkpffnabcgcbaa
