/-
  Walk: Close of the reference.
-/
import Derived.Test.YtklpghpfdeojeaaVd
import Derived.Deep.RegionLawGrows
import Derived.Deep.Cut
namespace Go.Proofs.Ytklpghpfdeojeaa
open Go.RowKit
theorem wp_append_grows {o : Oper} {a : Act} {w : World} {K : Act → World → Prop} {Q : Exit → Act → World → Prop} (hg : o.guard = none) (s x : Operand) (t : TypeId) (hop : o.op = Op.call { callee := Callee.builtin Builtin.append, args := #[s, x], argTypes := #[t, t] })
    (e : TypeId) (i : TypeInfo) (z : Value) (size bytes : Nat) (h1 : Try.prog.underlying t = some (.slice e)) (h2 : Try.prog.info? e = some i) (h3 : i.zero = some z) (h4 : i.size = size) (h5 : i.bytes = bytes) (h6 : z.cells.size = size) (h7 : 0 < size)
    (ao : Option Addr) (n cap : Nat) (olds : List Value) (hs : a.eval s = .slice ao n cap) (hnone : ao = none → n = 0 ∧ cap = 0) (hlo : olds.length = n * size) (holds : ∀ b, ao = some b → ∀ j u, olds[j]? = some u → w.cell? (b.add j) = some u)
    (ad : Addr) (m c : Nat) (news : List Value) (hx : a.eval x = .slice (some ad) m c) (hn : news.length = m * size) (hc : ∀ j u, news[j]? = some u → w.cell? (ad.add j) = some u) (h1c : ∀ u ∈ news, u.oneCell' = true)
    (hfull : cap < n + m) (b1 : n + m ≤ maxLen) (b2 : (n + m) * bytes ≤ 140737488355328)
    (hK : ∀ v' w', w'.ownsRow w.heap.size e size v' (n + m) (olds ++ news) → w.grownBy w' none → K (a.put o.dst v') w') : Oper.wp Try.prog o a w K Q := by
  have h := step_append_grows (P := Try.prog) (ops := #[]) (o := o) (a := a) (w := w) (K := K) (Q := Q) (E := True) hg s x t hop e i z size bytes h1 h2 h3 h4 h5 h6 h7 ao n cap olds hs hnone hlo holds ad m c news hx hn hc h1c hfull b1 b2 hK
  rwa [if_pos (by simp [Region.wanted, hg])] at h

set_option maxHeartbeats 4000000 in
theorem Close_any (v : Value) (s : Sm) (id : Int) (w : World) (hs : SmAt w w.heap.size v s) :
    Calls Try.prog 56 #[v, .int .i64 id] w (RetF (closeV s id) w) := by
  obtain ⟨A0, c0, A1, c1, rfl, hcap, h0, h1⟩ := hs
  have HS : Hid (SmAt w w.heap.size (smV A0 A1 c0 c1 s) s) := ⟨A0, c0, A1, c1, rfl, hcap, h0, h1⟩
  have HA := Lib.hid h0
  have HO := Lib.hid h1
  have hfl := h0.1.2
  have hol := h1.1.2
  clear h0 h1 hcap
  obtain ⟨i1, hi1, hz1, hy1, hb1⟩ := info_parts info52
  cases ha : askV s id true with
  | error er =>
    have HR := Lib.hid (show closeV s id = .error er by simp [closeV, ha])
    have HA2 := Lib.hid ha
    rcases askV_er ha with rfl | rfl
    · clear ha
      obtain ⟨W, HWd⟩ : ∃ W, Hid (W = ((w.alloc (.cells #[.slice A0 s.files.length c0, .slice A1 s.opn.length c1, .int .i64 s.inp, .int .i64 s.out, .int .i64 s.nxt] 25)).alloc (.cells #[.slice none 0 0, .slice none 0 0, .int .i64 0, .int .i64 0, .int .i64 0] 25))) := ⟨_, rfl⟩
      have hbW : Below w.heap.size w W := by
        rw [HWd.out]
        exact (Below.alloc (bAlloc w _) (by simp) _)
      have hzW : W.heap.size = w.heap.size + 2 := by rw [HWd.out]; simp
      have k0 : Blk W w.heap.size 25 #[.slice A0 s.files.length c0, .slice A1 s.opn.length c1, .int .i64 s.inp, .int .i64 s.out, .int .i64 s.nxt] := by rw [HWd.out]; exact (Blk.alloc (Blk.new _ _ _) (.cells #[.slice none 0 0, .slice none 0 0, .int .i64 0, .int .i64 0, .int .i64 0] 25))
      have k1 : Blk W (w.heap.size + 1) 25 #[.slice none 0 0, .slice none 0 0, .int .i64 0, .int .i64 0, .int .i64 0] := by
        have h := (Blk.new (w.alloc (.cells #[.slice A0 s.files.length c0, .slice A1 s.opn.length c1, .int .i64 s.inp, .int .i64 s.out, .int .i64 s.nxt] 25)) 25 #[.slice none 0 0, .slice none 0 0, .int .i64 0, .int .i64 0, .int .i64 0])
        rw [World.size_alloc] at h
        rw [HWd.out]; exact h
      have HBW := Lib.hid hbW
      clear hbW
      go_enter Try.func56, Try.ntmps56
      go_wp2_with fail
      rw [← HWd.out]
      refine (asked_bad HA2.out _ _ (HS.out.next HBW.out)).mono ?_
      rintro e w1 ⟨rfl, hb1⟩
      have HB1 := Lib.hid (bNext HBW.out hb1)
      have k01 := k0.next hb1
      have k11 := k1.next hb1
      clear hb1 k0 k1
      obtain ⟨p0, p1, p2, p3, p4⟩ := smBox k01
      have z0 := k11.cell 0
      have z1 := k11.cell 1
      have z2 := k11.cell 2
      have z3 := k11.cell 3
      have z4 := k11.cell 4
      simp at z0 z1 z2 z3 z4
      have g0 := k11.frozen 0
      have g1 := k11.frozen 1
      have g2 := k11.frozen 2
      have g3 := k11.frozen 3
      have g4 := k11.frozen 4
      have zz := k11.lt
      have hz0 : w.heap.size < w1.heap.size := by omega
      go_wp2_with fail
      refine bodyPost_ret (v := .tuple #[zV, .int .i64 1]) (by simp only [results, Try.results56]; go_simp) rfl (RetF.bad HR.out ?_)
      repeat (first | (with_reducible exact HB1.out) | ((with_reducible refine Below.setCell ?_ ?_ _); rotate_left; focus (first | (simp; done) | (simp; omega))) | ((with_reducible refine Below.alloc ?_ ?_ _); rotate_left; focus (first | (simp; done) | (simp; omega))))
    · clear ha
      obtain ⟨W, HWd⟩ : ∃ W, Hid (W = ((w.alloc (.cells #[.slice A0 s.files.length c0, .slice A1 s.opn.length c1, .int .i64 s.inp, .int .i64 s.out, .int .i64 s.nxt] 25)).alloc (.cells #[.slice none 0 0, .slice none 0 0, .int .i64 0, .int .i64 0, .int .i64 0] 25))) := ⟨_, rfl⟩
      have hbW : Below w.heap.size w W := by
        rw [HWd.out]
        exact (Below.alloc (bAlloc w _) (by simp) _)
      have hzW : W.heap.size = w.heap.size + 2 := by rw [HWd.out]; simp
      have k0 : Blk W w.heap.size 25 #[.slice A0 s.files.length c0, .slice A1 s.opn.length c1, .int .i64 s.inp, .int .i64 s.out, .int .i64 s.nxt] := by rw [HWd.out]; exact (Blk.alloc (Blk.new _ _ _) (.cells #[.slice none 0 0, .slice none 0 0, .int .i64 0, .int .i64 0, .int .i64 0] 25))
      have k1 : Blk W (w.heap.size + 1) 25 #[.slice none 0 0, .slice none 0 0, .int .i64 0, .int .i64 0, .int .i64 0] := by
        have h := (Blk.new (w.alloc (.cells #[.slice A0 s.files.length c0, .slice A1 s.opn.length c1, .int .i64 s.inp, .int .i64 s.out, .int .i64 s.nxt] 25)) 25 #[.slice none 0 0, .slice none 0 0, .int .i64 0, .int .i64 0, .int .i64 0])
        rw [World.size_alloc] at h
        rw [HWd.out]; exact h
      have HBW := Lib.hid hbW
      clear hbW
      go_enter Try.func56, Try.ntmps56
      go_wp2_with fail
      rw [← HWd.out]
      refine (asked_bad HA2.out _ _ (HS.out.next HBW.out)).mono ?_
      rintro e w1 ⟨rfl, hb1⟩
      have HB1 := Lib.hid (bNext HBW.out hb1)
      have k01 := k0.next hb1
      have k11 := k1.next hb1
      clear hb1 k0 k1
      obtain ⟨p0, p1, p2, p3, p4⟩ := smBox k01
      have z0 := k11.cell 0
      have z1 := k11.cell 1
      have z2 := k11.cell 2
      have z3 := k11.cell 3
      have z4 := k11.cell 4
      simp at z0 z1 z2 z3 z4
      have g0 := k11.frozen 0
      have g1 := k11.frozen 1
      have g2 := k11.frozen 2
      have g3 := k11.frozen 3
      have g4 := k11.frozen 4
      have zz := k11.lt
      have hz0 : w.heap.size < w1.heap.size := by omega
      go_wp2_with fail
      refine bodyPost_ret (v := .tuple #[zV, .int .i64 4]) (by simp only [results, Try.results56]; go_simp) rfl (RetF.bad HR.out ?_)
      repeat (first | (with_reducible exact HB1.out) | ((with_reducible refine Below.setCell ?_ ?_ _); rotate_left; focus (first | (simp; done) | (simp; omega))) | ((with_reducible refine Below.alloc ?_ ?_ _); rotate_left; focus (first | (simp; done) | (simp; omega))))
  | ok i =>
    obtain ⟨hv, -, hix, x, hx, hid⟩ := askV_ok ha
    have HRC := Lib.hid (show closeV s id = if id < 2 then .error 5 else .ok (closeS s i id) by simp [closeV, ha])
    have HA2 := Lib.hid ha
    clear ha hid hix
    have hil := (List.getElem?_eq_some_iff.1 hx).1
    obtain ⟨k, hk1, hk2, hk3, hk4, hk5⟩ := valid_file hv hx
    have hkl := (List.getElem?_eq_some_iff.1 hk2).1
    obtain ⟨hvf, hvo, hvn1, hvn2, -, -⟩ := valid_head hv
    obtain ⟨b, off, x', rfl, hb, hx', hx4⟩ := HO.out.at hil
    rw [hx] at hx'
    injection hx' with hx'
    subst hx'
    obtain ⟨bf, offf, f', rfl, hbf, hf', hf4⟩ := HA.out.at hkl
    rw [hk2] at hf'
    injection hf' with hf'
    obtain ⟨f, hfd⟩ : ∃ f, fileOf s x = f := ⟨_, rfl⟩
    rw [hfd] at hf' hk2 hk3 hk4 hk5
    subst hf'
    have HFD := Lib.hid hfd
    have HX := Lib.hid hx
    have HV := Lib.hid hv
    have HX4 := Lib.hid hx4
    have HF4 := Lib.hid hf4
    have HK1x := Lib.hid hk1
    have HK2x := Lib.hid hk2
    have HK5x := Lib.hid hk5
    clear hk1 hk2 hk3 hk5 hv hx hfd hx4 hf4
    have hili : (i : Int) < (s.opn.length : Int) := by omega
    have hkli : (k : Int) < (s.files.length : Int) := by omega
    obtain ⟨W, HWd⟩ : ∃ W, Hid (W = ((w.alloc (.cells #[.slice (some ⟨bf, offf, none⟩) s.files.length c0, .slice (some ⟨b, off, none⟩) s.opn.length c1, .int .i64 s.inp, .int .i64 s.out, .int .i64 s.nxt] 25)).alloc (.cells #[.slice none 0 0, .slice none 0 0, .int .i64 0, .int .i64 0, .int .i64 0] 25))) := ⟨_, rfl⟩
    have hbW : Below w.heap.size w W := by
      rw [HWd.out]
      exact (Below.alloc (bAlloc w _) (by simp) _)
    have hzW : W.heap.size = w.heap.size + 2 := by rw [HWd.out]; simp
    have k0 : Blk W w.heap.size 25 #[.slice (some ⟨bf, offf, none⟩) s.files.length c0, .slice (some ⟨b, off, none⟩) s.opn.length c1, .int .i64 s.inp, .int .i64 s.out, .int .i64 s.nxt] := by rw [HWd.out]; exact (Blk.alloc (Blk.new _ _ _) (.cells #[.slice none 0 0, .slice none 0 0, .int .i64 0, .int .i64 0, .int .i64 0] 25))
    have k1 : Blk W (w.heap.size + 1) 25 #[.slice none 0 0, .slice none 0 0, .int .i64 0, .int .i64 0, .int .i64 0] := by
      have h := (Blk.new (w.alloc (.cells #[.slice (some ⟨bf, offf, none⟩) s.files.length c0, .slice (some ⟨b, off, none⟩) s.opn.length c1, .int .i64 s.inp, .int .i64 s.out, .int .i64 s.nxt] 25)) 25 #[.slice none 0 0, .slice none 0 0, .int .i64 0, .int .i64 0, .int .i64 0])
      rw [World.size_alloc] at h
      rw [HWd.out]; exact h
    have HBW := Lib.hid hbW
    clear hbW
    go_enter Try.func56, Try.ntmps56
    go_wp2_with fail
    rw [← HWd.out]
    refine (asked_good HA2.out _ _ (HS.out.next HBW.out)).mono ?_
    rintro e w1 ⟨rfl, hb1⟩
    have HB1 := Lib.hid (bNext HBW.out hb1)
    have k01 := k0.next hb1
    have k11 := k1.next hb1
    clear hb1 k0 k1
    obtain ⟨p0, p1, p2, p3, p4⟩ := smBox k01
    have z0 := k11.cell 0
    have z1 := k11.cell 1
    have z2 := k11.cell 2
    have z3 := k11.cell 3
    have z4 := k11.cell 4
    simp at z0 z1 z2 z3 z4
    have g0 := k11.frozen 0
    have g1 := k11.frozen 1
    have g2 := k11.frozen 2
    have g3 := k11.frozen 3
    have g4 := k11.frozen 4
    have zz := k11.lt
    have hz0 : w.heap.size < w1.heap.size := by omega
    by_cases hid2 : id < 2
    · have HR := Lib.hid (show closeV s id = .error 5 by rw [HRC.out, if_pos hid2])
      go_wp2_with fail
      refine bodyPost_ret (v := .tuple #[zV, .int .i64 5]) (by simp only [results, Try.results56]; go_simp) rfl (RetF.bad HR.out ?_)
      repeat (first | (with_reducible exact HB1.out) | ((with_reducible refine Below.setCell ?_ ?_ _); rotate_left; focus (first | (simp; done) | (simp; omega))) | ((with_reducible refine Below.alloc ?_ ?_ _); rotate_left; focus (first | (simp; done) | (simp; omega))))
    · have HR := Lib.hid (show closeV s id = .ok (closeS s i id) by rw [HRC.out, if_neg hid2])
      go_wp2_with fail
      refine (clone_own _ s _ (HS.out.next HB1.out)).mono ?_
      rintro e wq ⟨⟨v0, v1, rfl, o0, o1⟩, hbq⟩
      obtain ⟨D0, e0, rfl, -⟩ := own_form o0
      obtain ⟨D1, e1, rfl, -⟩ := own_form o1
      have HBq := Lib.hid (bNext HB1.out hbq)
      have k0q := k01.next hbq
      have k1q := k11.next hbq
      have hzq := hbq.size
      have hr0 := Nr.made o0 o1
      have hbA := bAlloc wq (.cells #[.slice D0 s.files.length e0, .slice D1 s.opn.length e1, .int .i64 s.inp, .int .i64 s.out, .int .i64 s.nxt] 25)
      obtain ⟨wc, HWc⟩ : ∃ wc, Hid (wc = wq.alloc (.cells #[.slice D0 s.files.length e0, .slice D1 s.opn.length e1, .int .i64 s.inp, .int .i64 s.out, .int .i64 s.nxt] 25)) := ⟨_, rfl⟩
      obtain ⟨B, hB⟩ : ∃ B, Hid (B = w1.heap.size) := ⟨_, rfl⟩
      obtain ⟨nb, hnb⟩ : ∃ nb, Hid (nb = wq.heap.size) := ⟨_, rfl⟩
      rw [← HWc.out] at hr0 hbA
      have HBc := Lib.hid (bNext HBq.out hbA)
      have k0c := k0q.next hbA
      have k1c := k1q.next hbA
      rw [← hB.out, ← hnb.out] at hr0
      have hBw : w.heap.size + 1 < B := by rw [hB.out]; exact k11.lt
      have hBn : B ≤ nb := by rw [hB.out, hnb.out]; exact hzq
      have HNR := Lib.hid hr0
      clear hr0 hbA hbq o0 o1 k01 k11 k0q k1q
      clear p0 p1 p2 p3 p4 z0 z1 z2 z3 z4 g0 g1 g2 g3 g4 zz hz0
      obtain ⟨p0, p1, p2, p3, p4⟩ := smBox k0c
      have z0 := k1c.cell 0
      have z1 := k1c.cell 1
      have z2 := k1c.cell 2
      have z3 := k1c.cell 3
      have z4 := k1c.cell 4
      simp at z0 z1 z2 z3 z4
      have g0 := k1c.frozen 0
      have g1 := k1c.frozen 1
      have g2 := k1c.frozen 2
      have g3 := k1c.frozen 3
      have g4 := k1c.frozen 4
      have zz := k1c.lt
      have hz0 : w.heap.size < wc.heap.size := by omega
      go_wp2_with fail
      rw [← HWc.out, ← hnb.out]
      clear HWc hnb hzq
      obtain ⟨⟨c0', c1', c2', c3', c4'⟩, cf, cz⟩ := Nr.cells HNR.out
      obtain ⟨g, cap, hD1, hcap, hBg, hgz, hgn, hg0, hfr, hgc⟩ := Nr.opens HNR.out (by omega)
      injection hD1 with hD1 _ hD1c
      subst hD1 hD1c
      have hicap : i ≤ e1 := by omega
      have hi0 : (0 : Int) ≤ (i : Int) + 1 := by omega
      have hin1 : i + 1 ≤ s.opn.length := by omega
      have hin2 : (i : Int) + 1 ≤ (s.opn.length : Int) := by omega
      have hwr : IntKind.i64.wrap ((i : Int) + 1) = (i : Int) + 1 := by rw [IntKind.wrap_i64]; omega
      have cf1 := cf 1
      have cf2 := cf 2
      have cf3 := cf 3
      have HRW := Lib.hid (close1_row (HNR.out.r1) hil)
      have hcells : ∀ j u, ((gCs s.opn).take (i * 7))[j]? = some u → wc.cell? ⟨g, j, none⟩ = some u := fun j u hj => by
        have h := (HNR.out.r1).cells (g := g) rfl j u (by rw [List.getElem?_take] at hj; split at hj <;> first | exact hj | cases hj)
        rw [add_plain, Nat.zero_add] at h
        exact h
      have HCE := Lib.hid hcells
      clear hgc hfr cf hcells
      rcases Nat.lt_or_ge (i + 1) s.opn.length with hlt | hge
      · have hic2 : ¬ e1 = i + 1 := by omega
        go_wp2_with fail
        refine wp_region_N (fun w' => w'.cell? ⟨nb, 1, none⟩ = some (.slice (some ⟨g, 0, none⟩) s.opn.length e1)) (fun j => decide (j < 11)) (by kernel_rfl) ?_
        have hS0 : (fun w' => w'.cell? ⟨nb, 1, none⟩ = some (.slice (some ⟨g, 0, none⟩) s.opn.length e1)) wc.drew := c1'
        refine wpAnyN_take (i := 0) (v := ?v1) rfl (by kernel_rfl) (by kernel_rfl) (by kernel_rfl) (by kernel_rfl) (fun _ _ _ h => h) (Or.inl ⟨by rfl, ?hy1⟩) (by assumption) ?_
        case hy1 => intro w hSw; (try dsimp only at hSw); go_simp; try with_reducible rfl
        simp only [Act.put, List.getElem_toArray, List.getElem_cons_zero, List.setIfInBounds_toArray, List.set_cons_zero, List.set_cons_succ]
        refine wpAnyN_take (i := 1) (v := ?v2) rfl (by kernel_rfl) (by kernel_rfl) (by kernel_rfl) (by kernel_rfl) (fun _ _ _ h => h) (Or.inl ⟨by rfl, ?hy2⟩) (by assumption) ?_
        case hy2 => intro w hSw; (try dsimp only at hSw); go_simp; try with_reducible rfl
        simp only [Act.put, List.getElem_toArray, List.getElem_cons_zero, List.getElem_cons_succ, List.setIfInBounds_toArray, List.set_cons_zero, List.set_cons_succ]
        refine wpAnyN_take (i := 2) (v := ?v3) rfl (by kernel_rfl) (by kernel_rfl) (by kernel_rfl) (by kernel_rfl) (fun _ _ _ h => h) (Or.inl ⟨by rfl, ?hy3⟩) (by assumption) ?_
        case hy3 => intro w hSw; (try dsimp only at hSw); go_simp; try with_reducible rfl
        simp only [Act.put, List.getElem_toArray, List.getElem_cons_zero, List.getElem_cons_succ, List.setIfInBounds_toArray, List.set_cons_zero, List.set_cons_succ]
        refine wpAnyN_take (i := 3) (v := ?v4) rfl (by kernel_rfl) (by kernel_rfl) (by kernel_rfl) (by kernel_rfl) (fun _ _ _ h => h) (Or.inl ⟨by rfl, ?hy4⟩) (by assumption) ?_
        case hy4 => intro w hSw; (try dsimp only at hSw); go_simp; try with_reducible rfl
        simp only [Act.put, List.getElem_toArray, List.getElem_cons_zero, List.getElem_cons_succ, List.setIfInBounds_toArray, List.set_cons_zero, List.set_cons_succ]
        refine wpAnyN_take (i := 4) (v := ?v5) rfl (by kernel_rfl) (by kernel_rfl) (by kernel_rfl) (by kernel_rfl) (fun _ _ _ h => h) (Or.inl ⟨by rfl, ?hy5⟩) (by assumption) ?_
        case hy5 => intro w hSw; (try dsimp only at hSw); go_simp; try with_reducible rfl
        simp only [Act.put, List.getElem_toArray, List.getElem_cons_zero, List.getElem_cons_succ, List.setIfInBounds_toArray, List.set_cons_zero, List.set_cons_succ]
        refine wpAnyN_take (i := 5) (v := ?v6) rfl (by kernel_rfl) (by kernel_rfl) (by kernel_rfl) (by kernel_rfl) (fun _ _ _ h => h) (Or.inl ⟨by rfl, ?hy6⟩) (by assumption) ?_
        case hy6 => intro w hSw; (try dsimp only at hSw); go_simp; try with_reducible rfl
        simp only [Act.put, List.getElem_toArray, List.getElem_cons_zero, List.getElem_cons_succ, List.setIfInBounds_toArray, List.set_cons_zero, List.set_cons_succ]
        refine wpAnyN_take (i := 6) (v := ?v7) rfl (by kernel_rfl) (by kernel_rfl) (by kernel_rfl) (by kernel_rfl) (fun _ _ _ h => h) (Or.inl ⟨by rfl, ?hy7⟩) (by assumption) ?_
        case hy7 => intro w hSw; (try dsimp only at hSw); go_simp; try with_reducible rfl
        simp only [Act.put, List.getElem_toArray, List.getElem_cons_zero, List.getElem_cons_succ, List.setIfInBounds_toArray, List.set_cons_zero, List.set_cons_succ]
        refine wpAnyN_take (i := 7) (v := ?v8) rfl (by kernel_rfl) (by kernel_rfl) (by kernel_rfl) (by kernel_rfl) (fun _ _ _ h => h) (Or.inl ⟨by rfl, ?hy8⟩) (by assumption) ?_
        case hy8 => intro w hSw; (try dsimp only at hSw); go_simp; try with_reducible rfl
        simp only [Act.put, List.getElem_toArray, List.getElem_cons_zero, List.getElem_cons_succ, List.setIfInBounds_toArray, List.set_cons_zero, List.set_cons_succ]
        refine wpAnyN_take (i := 8) (v := ?v9) rfl (by kernel_rfl) (by kernel_rfl) (by kernel_rfl) (by kernel_rfl) (fun _ _ _ h => h) (Or.inl ⟨by rfl, ?hy9⟩) (by assumption) ?_
        case hy9 => intro w hSw; (try dsimp only at hSw); go_simp; try with_reducible rfl
        simp only [Act.put, List.getElem_toArray, List.getElem_cons_zero, List.getElem_cons_succ, List.setIfInBounds_toArray, List.set_cons_zero, List.set_cons_succ]
        refine wpAnyN_take (i := 9) (v := ?v10) rfl (by kernel_rfl) (by kernel_rfl) (by kernel_rfl) (by kernel_rfl) (fun _ _ _ h => h) (Or.inl ⟨by rfl, ?hy10⟩) (by assumption) ?_
        case hy10 => intro w hSw; (try dsimp only at hSw); go_simp; try with_reducible rfl
        simp only [Act.put, List.getElem_toArray, List.getElem_cons_zero, List.getElem_cons_succ, List.setIfInBounds_toArray, List.set_cons_zero, List.set_cons_succ]
        refine wpAnyN_one (i := 10) (by kernel_rfl) rfl (fun K hK => ?_)
        simp only [List.getElem_toArray, List.getElem_cons_zero, List.getElem_cons_succ]
        rw [if_pos (by rfl)]
        apply wp_append_grows (s := .tmp 28) (x := .tmp 33) (t := 23) (e := 52) (i := i1) (size := 7) (bytes := 72) (ao := some ⟨g, 0, none⟩) (n := i) (cap := i) (olds := (gCs s.opn).take (i * 7)) (ad := ⟨g, (i + 1) * 7, none⟩) (m := s.opn.length - (i + 1)) (c := e1 - (i + 1)) (news := gCs (s.opn.drop (i + 1))) (h1 := Try.underlying23) (h2 := hi1) (h3 := hz1) (h4 := hy1) (h5 := hb1)
        case hg => rfl
        case hop => rfl
        case h6 => rfl
        case h7 => decide
        case hs => rfl
        case hnone => intro e; cases e
        case hlo => rw [List.length_take, gCs_len]; omega
        case holds => intro b' e j u hj; injection e with e; subst e; rw [add_plain, Nat.zero_add]; exact HCE.out j u hj
        case hx => rfl
        case hn => rw [gCs_len, List.length_drop]
        case hc => intro j u hj; rw [add_plain]; exact HRW.out j u hj
        case h1c => exact g_one _
        case hfull => omega
        case b1 => unfold maxLen; omega
        case b2 => omega
        intro v2 w2 ho2 hg2
        rw [← gCs_erase] at ho2
        have hm2 : (s.opn.eraseIdx i).length = i + (s.opn.length - (i + 1)) := by rw [List.length_eraseIdx, if_pos hil]; omega
        obtain ⟨D, e, rfl, -⟩ := own_form ho2
        have hbw2 : Below wc.heap.size wc w2 := (bDrew wc).grown hg2 (by simp) (fun k hk => by cases hk)
        have hN2 := HNR.out.next hbw2
        have hnD : (Value.slice D (i + (s.opn.length - (i + 1))) e).ownBlock ≠ some nb := fun h => by have := (ho2.lt _ h).1; simp at this; omega
        have hB1 : B ≤ wc.drew.heap.size := by simp; omega
        have hEND := Nr.setV1 (l := s.opn.eraseIdx i) hN2.box hN2.r0 hN2.n0 ho2 hm2 hB1 hnD
        have HB3 := Lib.hid ((bNext HBc.out hbw2).setCell (p := ⟨nb, 1, none⟩) (by simp; omega) (.slice D (i + (s.opn.length - (i + 1))) e))
        have k03 := (k0c.next hbw2).far (p := ⟨nb, 1, none⟩) (by simp; omega) (.slice D (i + (s.opn.length - (i + 1))) e)
        have k13 := (k1c.next hbw2).far (p := ⟨nb, 1, none⟩) (by simp; omega) (.slice D (i + (s.opn.length - (i + 1))) e)
        have y1 := hN2.box.cell 1
        have y1f := hN2.box.frozen 1
        have yz := hN2.box.lt
        simp at y1
        refine hK _ _ (fun _ => y1) ?_
        (try simp only [Act.put, List.setIfInBounds_toArray, List.set_cons_zero, List.set_cons_succ])
        refine wpAnyN_one (i := 11) (by kernel_rfl) rfl (fun K hK => ?_)
        simp only [List.getElem_toArray, List.getElem_cons_zero, List.getElem_cons_succ]
        go_simp
        refine hK _ _ (fun h => absurd h (by decide)) ?_
        refine wpAnyN_one (i := 12) (by kernel_rfl) rfl (fun K hK => ?_)
        simp only [List.getElem_toArray, List.getElem_cons_zero, List.getElem_cons_succ]
        go_simp
        refine hK _ _ (fun h => absurd h (by decide)) ?_
        refine wpAnyN_done (by kernel_rfl) ?_ _
        obtain ⟨w3, HW3⟩ : ∃ w3, Hid (w3 = w2.setCell ⟨nb, 1, none⟩ (.slice D (i + (s.opn.length - (i + 1))) e)) := ⟨_, rfl⟩
        rw [← HW3.out]
        rw [← HW3.out] at hEND HB3 k03 k13
        obtain ⟨B0, B1, b0, b1, eq0, eq1, hnf⟩ := Nr.nf hEND (by show s.files.length ≤ _; omega) (by show (s.opn.eraseIdx i).length ≤ _; have := List.length_eraseIdx_le s.opn i; omega)
        simp only [hm2] at eq1
        injection eq0 with eq0 _ eq0c
        injection eq1 with eq1 _ eq1c
        subst eq0 eq0c eq1 eq1c
        have HEND := Lib.hid hnf
        rw [← hm2]
        clear hEND hnf HW3 hS0 ho2 hg2 hm2 hbw2 hN2 hnD hB1 y1 y1f yz c0' c1' c2' c3' c4' cf1 cf2 cf3 cz k0c k1c HNR
        clear p0 p1 p2 p3 p4 z0 z1 z2 z3 z4 g0 g1 g2 g3 g4 zz hz0
        obtain ⟨p0, p1, p2, p3, p4⟩ := smBox k03
        have z0 := k13.cell 0
        have z1 := k13.cell 1
        have z2 := k13.cell 2
        have z3 := k13.cell 3
        have z4 := k13.cell 4
        simp at z0 z1 z2 z3 z4
        have g0 := k13.frozen 0
        have g1 := k13.frozen 1
        have g2 := k13.frozen 2
        have g3 := k13.frozen 3
        have g4 := k13.frozen 4
        have zz := k13.lt
        have hz0 : w.heap.size < w3.heap.size := by omega
        obtain ⟨⟨d0, d1, d2, d3, d4⟩, df, dz⟩ := Nf.cells HEND.out
        have df2 := df 2
        have df3 := df 3
        simp only [] at d0 d1 d2 d3 d4
        clear df
        have hzz : w.heap.size + 1 < w3.heap.size := zz
        cases hin : s.inp == id
        · cases hou : s.out == id
          · have HR2 := Lib.hid (show closeV s id = .ok { s with opn := s.opn.eraseIdx i } by rw [HR.out]; unfold closeS; rw [hin, hou]; rfl)
            go_wp2_with fail
            refine bodyPost_ret (v := .tuple #[smV D0 D e0 e ({ s with opn := s.opn.eraseIdx i }), .int .i64 0]) (by simp only [results, Try.results56]; go_simp) rfl (RetF.good HR2.out ?_ ?_)
            · refine FreshS.base (FreshS.stay (Nf.out (HEND.out)) (fun b' hb' _ => ?_) (by simp)) (by omega)
              (try rw [heap_drew])
              repeat rw [heap_setCell_other _ _ _ _ (by simp; omega)]
            · repeat (first | (with_reducible exact HB3.out) | (with_reducible refine bDrew1 ?_) | ((with_reducible refine Below.setCell ?_ ?_ _); rotate_left; focus (first | (simp; done) | (simp; omega))) | ((with_reducible refine Below.alloc ?_ ?_ _); rotate_left; focus (first | (simp; done) | (simp; omega))))
          · have HR2 := Lib.hid (show closeV s id = .ok { s with opn := s.opn.eraseIdx i, out := 1 } by rw [HR.out]; unfold closeS; rw [hin, hou]; rfl)
            go_wp2_with fail
            refine bodyPost_ret (v := .tuple #[smV D0 D e0 e ({ s with opn := s.opn.eraseIdx i, out := 1 }), .int .i64 0]) (by simp only [results, Try.results56]; go_simp) rfl (RetF.good HR2.out ?_ ?_)
            · refine FreshS.base (FreshS.stay (Nf.out (HEND.out.setOut 1)) (fun b' hb' _ => ?_) (by simp)) (by omega)
              (try rw [heap_drew])
              repeat rw [heap_setCell_other _ _ _ _ (by simp; omega)]
            · repeat (first | (with_reducible exact HB3.out) | (with_reducible refine bDrew1 ?_) | ((with_reducible refine Below.setCell ?_ ?_ _); rotate_left; focus (first | (simp; done) | (simp; omega))) | ((with_reducible refine Below.alloc ?_ ?_ _); rotate_left; focus (first | (simp; done) | (simp; omega))))
        · cases hou : s.out == id
          · have HR2 := Lib.hid (show closeV s id = .ok { s with opn := s.opn.eraseIdx i, inp := 0 } by rw [HR.out]; unfold closeS; rw [hin, hou]; rfl)
            go_wp2_with fail
            refine bodyPost_ret (v := .tuple #[smV D0 D e0 e ({ s with opn := s.opn.eraseIdx i, inp := 0 }), .int .i64 0]) (by simp only [results, Try.results56]; go_simp) rfl (RetF.good HR2.out ?_ ?_)
            · refine FreshS.base (FreshS.stay (Nf.out (HEND.out.setIn 0)) (fun b' hb' _ => ?_) (by simp)) (by omega)
              (try rw [heap_drew])
              repeat rw [heap_setCell_other _ _ _ _ (by simp; omega)]
            · repeat (first | (with_reducible exact HB3.out) | (with_reducible refine bDrew1 ?_) | ((with_reducible refine Below.setCell ?_ ?_ _); rotate_left; focus (first | (simp; done) | (simp; omega))) | ((with_reducible refine Below.alloc ?_ ?_ _); rotate_left; focus (first | (simp; done) | (simp; omega))))
          · have HR2 := Lib.hid (show closeV s id = .ok { s with opn := s.opn.eraseIdx i, inp := 0, out := 1 } by rw [HR.out]; unfold closeS; rw [hin, hou]; rfl)
            go_wp2_with fail
            refine bodyPost_ret (v := .tuple #[smV D0 D e0 e ({ s with opn := s.opn.eraseIdx i, inp := 0, out := 1 }), .int .i64 0]) (by simp only [results, Try.results56]; go_simp) rfl (RetF.good HR2.out ?_ ?_)
            · refine FreshS.base (FreshS.stay (Nf.out ((HEND.out.setIn 0).setOut 1)) (fun b' hb' _ => ?_) (by simp)) (by omega)
              (try rw [heap_drew])
              repeat rw [heap_setCell_other _ _ _ _ (by simp; omega)]
            · repeat (first | (with_reducible exact HB3.out) | (with_reducible refine bDrew1 ?_) | ((with_reducible refine Below.setCell ?_ ?_ _); rotate_left; focus (first | (simp; done) | (simp; omega))) | ((with_reducible refine Below.alloc ?_ ?_ _); rotate_left; focus (first | (simp; done) | (simp; omega))))
      · have hlm : s.opn.length - (i + 1) = 0 := by omega
        rcases Nat.lt_or_ge (i + 1) e1 with hc1 | hc1
        · have hic2 : ¬ e1 = i + 1 := by omega
          go_wp2_with fail
          refine wp_region_N (fun w' => w'.cell? ⟨nb, 1, none⟩ = some (.slice (some ⟨g, 0, none⟩) s.opn.length e1)) (fun j => decide (j < 11)) (by kernel_rfl) ?_
          have hS0 : (fun w' => w'.cell? ⟨nb, 1, none⟩ = some (.slice (some ⟨g, 0, none⟩) s.opn.length e1)) wc.drew := c1'
          refine wpAnyN_take (i := 0) (v := ?v11) rfl (by kernel_rfl) (by kernel_rfl) (by kernel_rfl) (by kernel_rfl) (fun _ _ _ h => h) (Or.inl ⟨by rfl, ?hy11⟩) (by assumption) ?_
          case hy11 => intro w hSw; (try dsimp only at hSw); go_simp; try with_reducible rfl
          simp only [Act.put, List.getElem_toArray, List.getElem_cons_zero, List.setIfInBounds_toArray, List.set_cons_zero, List.set_cons_succ]
          refine wpAnyN_take (i := 1) (v := ?v12) rfl (by kernel_rfl) (by kernel_rfl) (by kernel_rfl) (by kernel_rfl) (fun _ _ _ h => h) (Or.inl ⟨by rfl, ?hy12⟩) (by assumption) ?_
          case hy12 => intro w hSw; (try dsimp only at hSw); go_simp; try with_reducible rfl
          simp only [Act.put, List.getElem_toArray, List.getElem_cons_zero, List.getElem_cons_succ, List.setIfInBounds_toArray, List.set_cons_zero, List.set_cons_succ]
          refine wpAnyN_take (i := 2) (v := ?v13) rfl (by kernel_rfl) (by kernel_rfl) (by kernel_rfl) (by kernel_rfl) (fun _ _ _ h => h) (Or.inl ⟨by rfl, ?hy13⟩) (by assumption) ?_
          case hy13 => intro w hSw; (try dsimp only at hSw); go_simp; try with_reducible rfl
          simp only [Act.put, List.getElem_toArray, List.getElem_cons_zero, List.getElem_cons_succ, List.setIfInBounds_toArray, List.set_cons_zero, List.set_cons_succ]
          refine wpAnyN_take (i := 3) (v := ?v14) rfl (by kernel_rfl) (by kernel_rfl) (by kernel_rfl) (by kernel_rfl) (fun _ _ _ h => h) (Or.inl ⟨by rfl, ?hy14⟩) (by assumption) ?_
          case hy14 => intro w hSw; (try dsimp only at hSw); go_simp; try with_reducible rfl
          simp only [Act.put, List.getElem_toArray, List.getElem_cons_zero, List.getElem_cons_succ, List.setIfInBounds_toArray, List.set_cons_zero, List.set_cons_succ]
          refine wpAnyN_take (i := 4) (v := ?v15) rfl (by kernel_rfl) (by kernel_rfl) (by kernel_rfl) (by kernel_rfl) (fun _ _ _ h => h) (Or.inl ⟨by rfl, ?hy15⟩) (by assumption) ?_
          case hy15 => intro w hSw; (try dsimp only at hSw); go_simp; try with_reducible rfl
          simp only [Act.put, List.getElem_toArray, List.getElem_cons_zero, List.getElem_cons_succ, List.setIfInBounds_toArray, List.set_cons_zero, List.set_cons_succ]
          refine wpAnyN_take (i := 5) (v := ?v16) rfl (by kernel_rfl) (by kernel_rfl) (by kernel_rfl) (by kernel_rfl) (fun _ _ _ h => h) (Or.inl ⟨by rfl, ?hy16⟩) (by assumption) ?_
          case hy16 => intro w hSw; (try dsimp only at hSw); go_simp; try with_reducible rfl
          simp only [Act.put, List.getElem_toArray, List.getElem_cons_zero, List.getElem_cons_succ, List.setIfInBounds_toArray, List.set_cons_zero, List.set_cons_succ]
          refine wpAnyN_take (i := 6) (v := ?v17) rfl (by kernel_rfl) (by kernel_rfl) (by kernel_rfl) (by kernel_rfl) (fun _ _ _ h => h) (Or.inl ⟨by rfl, ?hy17⟩) (by assumption) ?_
          case hy17 => intro w hSw; (try dsimp only at hSw); go_simp; try with_reducible rfl
          simp only [Act.put, List.getElem_toArray, List.getElem_cons_zero, List.getElem_cons_succ, List.setIfInBounds_toArray, List.set_cons_zero, List.set_cons_succ]
          refine wpAnyN_take (i := 7) (v := ?v18) rfl (by kernel_rfl) (by kernel_rfl) (by kernel_rfl) (by kernel_rfl) (fun _ _ _ h => h) (Or.inl ⟨by rfl, ?hy18⟩) (by assumption) ?_
          case hy18 => intro w hSw; (try dsimp only at hSw); go_simp; try with_reducible rfl
          simp only [Act.put, List.getElem_toArray, List.getElem_cons_zero, List.getElem_cons_succ, List.setIfInBounds_toArray, List.set_cons_zero, List.set_cons_succ]
          refine wpAnyN_take (i := 8) (v := ?v19) rfl (by kernel_rfl) (by kernel_rfl) (by kernel_rfl) (by kernel_rfl) (fun _ _ _ h => h) (Or.inl ⟨by rfl, ?hy19⟩) (by assumption) ?_
          case hy19 => intro w hSw; (try dsimp only at hSw); go_simp; try with_reducible rfl
          simp only [Act.put, List.getElem_toArray, List.getElem_cons_zero, List.getElem_cons_succ, List.setIfInBounds_toArray, List.set_cons_zero, List.set_cons_succ]
          refine wpAnyN_take (i := 9) (v := ?v20) rfl (by kernel_rfl) (by kernel_rfl) (by kernel_rfl) (by kernel_rfl) (fun _ _ _ h => h) (Or.inl ⟨by rfl, ?hy20⟩) (by assumption) ?_
          case hy20 => intro w hSw; (try dsimp only at hSw); go_simp; try with_reducible rfl
          simp only [Act.put, List.getElem_toArray, List.getElem_cons_zero, List.getElem_cons_succ, List.setIfInBounds_toArray, List.set_cons_zero, List.set_cons_succ]
          refine wpAnyN_one (i := 10) (by kernel_rfl) rfl (fun K hK => ?_)
          simp only [List.getElem_toArray, List.getElem_cons_zero, List.getElem_cons_succ]
          go_simp
          refine hK _ _ (fun _ => hS0) ?_
          refine wpAnyN_one (i := 11) (by kernel_rfl) rfl (fun K hK => ?_)
          simp only [List.getElem_toArray, List.getElem_cons_zero, List.getElem_cons_succ]
          go_simp
          refine hK _ _ (fun h => absurd h (by decide)) ?_
          refine wpAnyN_one (i := 12) (by kernel_rfl) rfl (fun K hK => ?_)
          simp only [List.getElem_toArray, List.getElem_cons_zero, List.getElem_cons_succ]
          go_simp
          refine hK _ _ (fun h => absurd h (by decide)) ?_
          refine wpAnyN_done (by kernel_rfl) ?_ _
          obtain ⟨w3, HW3⟩ : ∃ w3, Hid (w3 = wc.setCell ⟨nb, 1, none⟩ (.slice (some ⟨g, 0, none⟩) i i)) := ⟨_, rfl⟩
          rw [← HW3.out]
          have hEND := Nr.cutLast (i := i) HNR.out (by omega) (by omega) (by omega)
          have HB3 := Lib.hid (HBc.out.setCell (p := ⟨nb, 1, none⟩) (by simp; omega) (.slice (some ⟨g, 0, none⟩) i i))
          have k03 := k0c.far (p := ⟨nb, 1, none⟩) (by simp; omega) (.slice (some ⟨g, 0, none⟩) i i)
          have k13 := k1c.far (p := ⟨nb, 1, none⟩) (by simp; omega) (.slice (some ⟨g, 0, none⟩) i i)
          rw [← HW3.out] at hEND HB3 k03 k13
          have HEND := Lib.hid hEND
          clear hEND HW3 hS0 c0' c1' c2' c3' c4' cf1 cf2 cf3 cz k0c k1c HNR HCE HRW
          clear p0 p1 p2 p3 p4 z0 z1 z2 z3 z4 g0 g1 g2 g3 g4 zz hz0
          obtain ⟨p0, p1, p2, p3, p4⟩ := smBox k03
          have z0 := k13.cell 0
          have z1 := k13.cell 1
          have z2 := k13.cell 2
          have z3 := k13.cell 3
          have z4 := k13.cell 4
          simp at z0 z1 z2 z3 z4
          have g0 := k13.frozen 0
          have g1 := k13.frozen 1
          have g2 := k13.frozen 2
          have g3 := k13.frozen 3
          have g4 := k13.frozen 4
          have zz := k13.lt
          have hz0 : w.heap.size < w3.heap.size := by omega
          obtain ⟨⟨d0, d1, d2, d3, d4⟩, df, dz⟩ := Nf.cells HEND.out
          have df2 := df 2
          have df3 := df 3
          simp only [] at d0 d1 d2 d3 d4
          clear df
          have hzz : w.heap.size + 1 < w3.heap.size := zz
          cases hin : s.inp == id
          · cases hou : s.out == id
            · have HR2 := Lib.hid (show closeV s id = .ok { s with opn := s.opn.eraseIdx i } by rw [HR.out]; unfold closeS; rw [hin, hou]; rfl)
              go_wp2_with fail
              refine bodyPost_ret (v := .tuple #[smV D0 (some ⟨g, 0, none⟩) e0 i ({ s with opn := s.opn.eraseIdx i }), .int .i64 0]) (by simp only [results, Try.results56]; go_simp) rfl (RetF.good HR2.out ?_ ?_)
              · refine FreshS.base (FreshS.stay (Nf.out (HEND.out)) (fun b' hb' _ => ?_) (by simp)) (by omega)
                (try rw [heap_drew])
                repeat rw [heap_setCell_other _ _ _ _ (by simp; omega)]
              · repeat (first | (with_reducible exact HB3.out) | (with_reducible refine bDrew1 ?_) | ((with_reducible refine Below.setCell ?_ ?_ _); rotate_left; focus (first | (simp; done) | (simp; omega))) | ((with_reducible refine Below.alloc ?_ ?_ _); rotate_left; focus (first | (simp; done) | (simp; omega))))
            · have HR2 := Lib.hid (show closeV s id = .ok { s with opn := s.opn.eraseIdx i, out := 1 } by rw [HR.out]; unfold closeS; rw [hin, hou]; rfl)
              go_wp2_with fail
              refine bodyPost_ret (v := .tuple #[smV D0 (some ⟨g, 0, none⟩) e0 i ({ s with opn := s.opn.eraseIdx i, out := 1 }), .int .i64 0]) (by simp only [results, Try.results56]; go_simp) rfl (RetF.good HR2.out ?_ ?_)
              · refine FreshS.base (FreshS.stay (Nf.out (HEND.out.setOut 1)) (fun b' hb' _ => ?_) (by simp)) (by omega)
                (try rw [heap_drew])
                repeat rw [heap_setCell_other _ _ _ _ (by simp; omega)]
              · repeat (first | (with_reducible exact HB3.out) | (with_reducible refine bDrew1 ?_) | ((with_reducible refine Below.setCell ?_ ?_ _); rotate_left; focus (first | (simp; done) | (simp; omega))) | ((with_reducible refine Below.alloc ?_ ?_ _); rotate_left; focus (first | (simp; done) | (simp; omega))))
          · cases hou : s.out == id
            · have HR2 := Lib.hid (show closeV s id = .ok { s with opn := s.opn.eraseIdx i, inp := 0 } by rw [HR.out]; unfold closeS; rw [hin, hou]; rfl)
              go_wp2_with fail
              refine bodyPost_ret (v := .tuple #[smV D0 (some ⟨g, 0, none⟩) e0 i ({ s with opn := s.opn.eraseIdx i, inp := 0 }), .int .i64 0]) (by simp only [results, Try.results56]; go_simp) rfl (RetF.good HR2.out ?_ ?_)
              · refine FreshS.base (FreshS.stay (Nf.out (HEND.out.setIn 0)) (fun b' hb' _ => ?_) (by simp)) (by omega)
                (try rw [heap_drew])
                repeat rw [heap_setCell_other _ _ _ _ (by simp; omega)]
              · repeat (first | (with_reducible exact HB3.out) | (with_reducible refine bDrew1 ?_) | ((with_reducible refine Below.setCell ?_ ?_ _); rotate_left; focus (first | (simp; done) | (simp; omega))) | ((with_reducible refine Below.alloc ?_ ?_ _); rotate_left; focus (first | (simp; done) | (simp; omega))))
            · have HR2 := Lib.hid (show closeV s id = .ok { s with opn := s.opn.eraseIdx i, inp := 0, out := 1 } by rw [HR.out]; unfold closeS; rw [hin, hou]; rfl)
              go_wp2_with fail
              refine bodyPost_ret (v := .tuple #[smV D0 (some ⟨g, 0, none⟩) e0 i ({ s with opn := s.opn.eraseIdx i, inp := 0, out := 1 }), .int .i64 0]) (by simp only [results, Try.results56]; go_simp) rfl (RetF.good HR2.out ?_ ?_)
              · refine FreshS.base (FreshS.stay (Nf.out ((HEND.out.setIn 0).setOut 1)) (fun b' hb' _ => ?_) (by simp)) (by omega)
                (try rw [heap_drew])
                repeat rw [heap_setCell_other _ _ _ _ (by simp; omega)]
              · repeat (first | (with_reducible exact HB3.out) | (with_reducible refine bDrew1 ?_) | ((with_reducible refine Below.setCell ?_ ?_ _); rotate_left; focus (first | (simp; done) | (simp; omega))) | ((with_reducible refine Below.alloc ?_ ?_ _); rotate_left; focus (first | (simp; done) | (simp; omega))))
        · obtain rfl : e1 = i + 1 := by omega
          have hii : (i : Int) ≤ (i : Int) + 1 := by omega
          go_wp2_with fail
          refine wp_region_N (fun w' => w'.cell? ⟨nb, 1, none⟩ = some (.slice (some ⟨g, 0, none⟩) s.opn.length (i + 1))) (fun j => decide (j < 11)) (by kernel_rfl) ?_
          have hS0 : (fun w' => w'.cell? ⟨nb, 1, none⟩ = some (.slice (some ⟨g, 0, none⟩) s.opn.length (i + 1))) wc.drew := c1'
          refine wpAnyN_take (i := 0) (v := ?v21) rfl (by kernel_rfl) (by kernel_rfl) (by kernel_rfl) (by kernel_rfl) (fun _ _ _ h => h) (Or.inl ⟨by rfl, ?hy21⟩) (by assumption) ?_
          case hy21 => intro w hSw; (try dsimp only at hSw); go_simp; try with_reducible rfl
          simp only [Act.put, List.getElem_toArray, List.getElem_cons_zero, List.setIfInBounds_toArray, List.set_cons_zero, List.set_cons_succ]
          refine wpAnyN_take (i := 1) (v := ?v22) rfl (by kernel_rfl) (by kernel_rfl) (by kernel_rfl) (by kernel_rfl) (fun _ _ _ h => h) (Or.inl ⟨by rfl, ?hy22⟩) (by assumption) ?_
          case hy22 => intro w hSw; (try dsimp only at hSw); go_simp; try with_reducible rfl
          simp only [Act.put, List.getElem_toArray, List.getElem_cons_zero, List.getElem_cons_succ, List.setIfInBounds_toArray, List.set_cons_zero, List.set_cons_succ]
          refine wpAnyN_take (i := 2) (v := ?v23) rfl (by kernel_rfl) (by kernel_rfl) (by kernel_rfl) (by kernel_rfl) (fun _ _ _ h => h) (Or.inl ⟨by rfl, ?hy23⟩) (by assumption) ?_
          case hy23 => intro w hSw; (try dsimp only at hSw); go_simp; try with_reducible rfl
          simp only [Act.put, List.getElem_toArray, List.getElem_cons_zero, List.getElem_cons_succ, List.setIfInBounds_toArray, List.set_cons_zero, List.set_cons_succ]
          refine wpAnyN_take (i := 3) (v := ?v24) rfl (by kernel_rfl) (by kernel_rfl) (by kernel_rfl) (by kernel_rfl) (fun _ _ _ h => h) (Or.inl ⟨by rfl, ?hy24⟩) (by assumption) ?_
          case hy24 => intro w hSw; (try dsimp only at hSw); go_simp; try with_reducible rfl
          simp only [Act.put, List.getElem_toArray, List.getElem_cons_zero, List.getElem_cons_succ, List.setIfInBounds_toArray, List.set_cons_zero, List.set_cons_succ]
          refine wpAnyN_take (i := 4) (v := ?v25) rfl (by kernel_rfl) (by kernel_rfl) (by kernel_rfl) (by kernel_rfl) (fun _ _ _ h => h) (Or.inl ⟨by rfl, ?hy25⟩) (by assumption) ?_
          case hy25 => intro w hSw; (try dsimp only at hSw); go_simp; try with_reducible rfl
          simp only [Act.put, List.getElem_toArray, List.getElem_cons_zero, List.getElem_cons_succ, List.setIfInBounds_toArray, List.set_cons_zero, List.set_cons_succ]
          refine wpAnyN_take (i := 5) (v := ?v26) rfl (by kernel_rfl) (by kernel_rfl) (by kernel_rfl) (by kernel_rfl) (fun _ _ _ h => h) (Or.inl ⟨by rfl, ?hy26⟩) (by assumption) ?_
          case hy26 => intro w hSw; (try dsimp only at hSw); go_simp; try with_reducible rfl
          simp only [Act.put, List.getElem_toArray, List.getElem_cons_zero, List.getElem_cons_succ, List.setIfInBounds_toArray, List.set_cons_zero, List.set_cons_succ]
          refine wpAnyN_take (i := 6) (v := ?v27) rfl (by kernel_rfl) (by kernel_rfl) (by kernel_rfl) (by kernel_rfl) (fun _ _ _ h => h) (Or.inl ⟨by rfl, ?hy27⟩) (by assumption) ?_
          case hy27 => intro w hSw; (try dsimp only at hSw); go_simp; try with_reducible rfl
          simp only [Act.put, List.getElem_toArray, List.getElem_cons_zero, List.getElem_cons_succ, List.setIfInBounds_toArray, List.set_cons_zero, List.set_cons_succ]
          refine wpAnyN_take (i := 7) (v := ?v28) rfl (by kernel_rfl) (by kernel_rfl) (by kernel_rfl) (by kernel_rfl) (fun _ _ _ h => h) (Or.inl ⟨by rfl, ?hy28⟩) (by assumption) ?_
          case hy28 => intro w hSw; (try dsimp only at hSw); go_simp; try with_reducible rfl
          simp only [Act.put, List.getElem_toArray, List.getElem_cons_zero, List.getElem_cons_succ, List.setIfInBounds_toArray, List.set_cons_zero, List.set_cons_succ]
          refine wpAnyN_take (i := 8) (v := ?v29) rfl (by kernel_rfl) (by kernel_rfl) (by kernel_rfl) (by kernel_rfl) (fun _ _ _ h => h) (Or.inl ⟨by rfl, ?hy29⟩) (by assumption) ?_
          case hy29 => intro w hSw; (try dsimp only at hSw); go_simp; try with_reducible rfl
          simp only [Act.put, List.getElem_toArray, List.getElem_cons_zero, List.getElem_cons_succ, List.setIfInBounds_toArray, List.set_cons_zero, List.set_cons_succ]
          refine wpAnyN_take (i := 9) (v := ?v30) rfl (by kernel_rfl) (by kernel_rfl) (by kernel_rfl) (by kernel_rfl) (fun _ _ _ h => h) (Or.inl ⟨by rfl, ?hy30⟩) (by assumption) ?_
          case hy30 => intro w hSw; (try dsimp only at hSw); go_simp; try with_reducible rfl
          simp only [Act.put, List.getElem_toArray, List.getElem_cons_zero, List.getElem_cons_succ, List.setIfInBounds_toArray, List.set_cons_zero, List.set_cons_succ]
          refine wpAnyN_one (i := 10) (by kernel_rfl) rfl (fun K hK => ?_)
          simp only [List.getElem_toArray, List.getElem_cons_zero, List.getElem_cons_succ]
          go_simp
          refine hK _ _ (fun _ => hS0) ?_
          refine wpAnyN_one (i := 11) (by kernel_rfl) rfl (fun K hK => ?_)
          simp only [List.getElem_toArray, List.getElem_cons_zero, List.getElem_cons_succ]
          go_simp
          refine hK _ _ (fun h => absurd h (by decide)) ?_
          refine wpAnyN_one (i := 12) (by kernel_rfl) rfl (fun K hK => ?_)
          simp only [List.getElem_toArray, List.getElem_cons_zero, List.getElem_cons_succ]
          go_simp
          refine hK _ _ (fun h => absurd h (by decide)) ?_
          refine wpAnyN_done (by kernel_rfl) ?_ _
          obtain ⟨w3, HW3⟩ : ∃ w3, Hid (w3 = wc.setCell ⟨nb, 1, none⟩ (.slice (some ⟨g, 0, none⟩) i i)) := ⟨_, rfl⟩
          rw [← HW3.out]
          have hEND := Nr.cutLast (i := i) HNR.out (by omega) (by omega) (by omega)
          have HB3 := Lib.hid (HBc.out.setCell (p := ⟨nb, 1, none⟩) (by simp; omega) (.slice (some ⟨g, 0, none⟩) i i))
          have k03 := k0c.far (p := ⟨nb, 1, none⟩) (by simp; omega) (.slice (some ⟨g, 0, none⟩) i i)
          have k13 := k1c.far (p := ⟨nb, 1, none⟩) (by simp; omega) (.slice (some ⟨g, 0, none⟩) i i)
          rw [← HW3.out] at hEND HB3 k03 k13
          have HEND := Lib.hid hEND
          clear hEND HW3 hS0 c0' c1' c2' c3' c4' cf1 cf2 cf3 cz k0c k1c HNR HCE HRW
          clear p0 p1 p2 p3 p4 z0 z1 z2 z3 z4 g0 g1 g2 g3 g4 zz hz0
          obtain ⟨p0, p1, p2, p3, p4⟩ := smBox k03
          have z0 := k13.cell 0
          have z1 := k13.cell 1
          have z2 := k13.cell 2
          have z3 := k13.cell 3
          have z4 := k13.cell 4
          simp at z0 z1 z2 z3 z4
          have g0 := k13.frozen 0
          have g1 := k13.frozen 1
          have g2 := k13.frozen 2
          have g3 := k13.frozen 3
          have g4 := k13.frozen 4
          have zz := k13.lt
          have hz0 : w.heap.size < w3.heap.size := by omega
          obtain ⟨⟨d0, d1, d2, d3, d4⟩, df, dz⟩ := Nf.cells HEND.out
          have df2 := df 2
          have df3 := df 3
          simp only [] at d0 d1 d2 d3 d4
          clear df
          have hzz : w.heap.size + 1 < w3.heap.size := zz
          cases hin : s.inp == id
          · cases hou : s.out == id
            · have HR2 := Lib.hid (show closeV s id = .ok { s with opn := s.opn.eraseIdx i } by rw [HR.out]; unfold closeS; rw [hin, hou]; rfl)
              go_wp2_with fail
              refine bodyPost_ret (v := .tuple #[smV D0 (some ⟨g, 0, none⟩) e0 i ({ s with opn := s.opn.eraseIdx i }), .int .i64 0]) (by simp only [results, Try.results56]; go_simp) rfl (RetF.good HR2.out ?_ ?_)
              · refine FreshS.base (FreshS.stay (Nf.out (HEND.out)) (fun b' hb' _ => ?_) (by simp)) (by omega)
                (try rw [heap_drew])
                repeat rw [heap_setCell_other _ _ _ _ (by simp; omega)]
              · repeat (first | (with_reducible exact HB3.out) | (with_reducible refine bDrew1 ?_) | ((with_reducible refine Below.setCell ?_ ?_ _); rotate_left; focus (first | (simp; done) | (simp; omega))) | ((with_reducible refine Below.alloc ?_ ?_ _); rotate_left; focus (first | (simp; done) | (simp; omega))))
            · have HR2 := Lib.hid (show closeV s id = .ok { s with opn := s.opn.eraseIdx i, out := 1 } by rw [HR.out]; unfold closeS; rw [hin, hou]; rfl)
              go_wp2_with fail
              refine bodyPost_ret (v := .tuple #[smV D0 (some ⟨g, 0, none⟩) e0 i ({ s with opn := s.opn.eraseIdx i, out := 1 }), .int .i64 0]) (by simp only [results, Try.results56]; go_simp) rfl (RetF.good HR2.out ?_ ?_)
              · refine FreshS.base (FreshS.stay (Nf.out (HEND.out.setOut 1)) (fun b' hb' _ => ?_) (by simp)) (by omega)
                (try rw [heap_drew])
                repeat rw [heap_setCell_other _ _ _ _ (by simp; omega)]
              · repeat (first | (with_reducible exact HB3.out) | (with_reducible refine bDrew1 ?_) | ((with_reducible refine Below.setCell ?_ ?_ _); rotate_left; focus (first | (simp; done) | (simp; omega))) | ((with_reducible refine Below.alloc ?_ ?_ _); rotate_left; focus (first | (simp; done) | (simp; omega))))
          · cases hou : s.out == id
            · have HR2 := Lib.hid (show closeV s id = .ok { s with opn := s.opn.eraseIdx i, inp := 0 } by rw [HR.out]; unfold closeS; rw [hin, hou]; rfl)
              go_wp2_with fail
              refine bodyPost_ret (v := .tuple #[smV D0 (some ⟨g, 0, none⟩) e0 i ({ s with opn := s.opn.eraseIdx i, inp := 0 }), .int .i64 0]) (by simp only [results, Try.results56]; go_simp) rfl (RetF.good HR2.out ?_ ?_)
              · refine FreshS.base (FreshS.stay (Nf.out (HEND.out.setIn 0)) (fun b' hb' _ => ?_) (by simp)) (by omega)
                (try rw [heap_drew])
                repeat rw [heap_setCell_other _ _ _ _ (by simp; omega)]
              · repeat (first | (with_reducible exact HB3.out) | (with_reducible refine bDrew1 ?_) | ((with_reducible refine Below.setCell ?_ ?_ _); rotate_left; focus (first | (simp; done) | (simp; omega))) | ((with_reducible refine Below.alloc ?_ ?_ _); rotate_left; focus (first | (simp; done) | (simp; omega))))
            · have HR2 := Lib.hid (show closeV s id = .ok { s with opn := s.opn.eraseIdx i, inp := 0, out := 1 } by rw [HR.out]; unfold closeS; rw [hin, hou]; rfl)
              go_wp2_with fail
              refine bodyPost_ret (v := .tuple #[smV D0 (some ⟨g, 0, none⟩) e0 i ({ s with opn := s.opn.eraseIdx i, inp := 0, out := 1 }), .int .i64 0]) (by simp only [results, Try.results56]; go_simp) rfl (RetF.good HR2.out ?_ ?_)
              · refine FreshS.base (FreshS.stay (Nf.out ((HEND.out.setIn 0).setOut 1)) (fun b' hb' _ => ?_) (by simp)) (by omega)
                (try rw [heap_drew])
                repeat rw [heap_setCell_other _ _ _ _ (by simp; omega)]
              · repeat (first | (with_reducible exact HB3.out) | (with_reducible refine bDrew1 ?_) | ((with_reducible refine Below.setCell ?_ ?_ _); rotate_left; focus (first | (simp; done) | (simp; omega))) | ((with_reducible refine Below.alloc ?_ ?_ _); rotate_left; focus (first | (simp; done) | (simp; omega))))
end Go.Proofs.Ytklpghpfdeojeaa
