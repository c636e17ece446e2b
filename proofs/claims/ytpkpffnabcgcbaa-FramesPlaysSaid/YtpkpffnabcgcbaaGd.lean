/-
  The walk of the law FramesKnown.
-/
import Derived.Test.YtpkpffnabcgcbaaHa
import Derived.Test.YtpkpffnabcgcbaaGc
namespace Go.Proofs.Ytpkpffnabcgcbaa
open Go.RowKit

def f0 : En := ⟨0, 1, 0, [⟨1, 0⟩, ⟨1, 0⟩, ⟨1, 0⟩]⟩
def f1 : En := ⟨1, 2, 0, [⟨1, 0⟩]⟩
def f2 : En := ⟨0, 1, 0, [⟨1, 0⟩, ⟨1, 0⟩, ⟨1, 9⟩]⟩
def f3 : En := ⟨0, 1, 0, [⟨1, 0⟩, ⟨1, 0⟩]⟩
def h1 : Ch := ⟨1, [], 1, 0, 0, 0, 0, 0, 1, [], 0⟩
def h2 : Ch := ⟨2, [], 2, 0, 0, 0, 0, 0, 2, [], 0⟩
def chK (k : Int) : Ch := ⟨k, [], 0, 0, 0, 0, 0, 0, 0, [], 0⟩
def a1 : St := ⟨[f0], 1, []⟩
def a2 : St := ⟨[f0], 1, [h1]⟩
def a3 : St := ⟨[f0, f1], 2, [h1]⟩
def a4 : St := ⟨[f0, f1], 2, [h1, h2]⟩
def a6 : St := ⟨[f0, f1], 1, [h1, h2]⟩
def a7 : St := ⟨[f0, f1, f2], 3, [h1, h2]⟩
def a8 : St := ⟨[f0, f1, f2], 3, [h1]⟩
def a9 : St := ⟨[f0, f1, f3], 3, [h1]⟩
theorem a1_z : Sized a1 := ⟨by decide, by decide, by simp [a1, f0], by decide⟩
theorem a2_z : Sized a2 := ⟨by decide, by decide, by simp [a2, f0], by decide⟩
theorem a3_z : Sized a3 := ⟨by decide, by decide, by simp [a3, f0, f1], by decide⟩
theorem a4_z : Sized a4 := ⟨by decide, by decide, by simp [a4, f0, f1], by decide⟩
theorem a6_z : Sized a6 := ⟨by decide, by decide, by simp [a6, f0, f1], by decide⟩
theorem a7_z : Sized a7 := ⟨by decide, by decide, by simp [a7, f0, f1, f2], by decide⟩
theorem a8_z : Sized a8 := ⟨by decide, by decide, by simp [a8, f0, f1, f2], by decide⟩
theorem a9_z : Sized a9 := ⟨by decide, by decide, by simp [a9, f0, f1, f3], by decide⟩
theorem k1 : allocV s0 (-1) 0 0 = .error 1 := rfl
theorem k2 : allocV s0 4097 0 0 = .error 1 := rfl
theorem k3 : allocV s0 0 0 (-1) = .error 1 := rfl
theorem k4 : trimV s0 0 = .error 5 := rfl
theorem k5 : allocV s0 3 1 0 = .ok a1 := rfl
theorem k6 : pushV a1 (chK 1) = .ok a2 := rfl
theorem k7 : allocV a2 1 2 0 = .ok a3 := rfl
theorem k8 : pushV a3 (chK 2) = .ok a4 := rfl
theorem k9 : trimV a4 0 = .ok a4 := rfl
theorem k10 : freeV a4 = .ok (a6, 2, 0) := rfl
theorem k11 : setV a6 3 ⟨1, 9⟩ = .ok a7 := rfl
theorem k12 : cutV a7 1 = .ok a8 := rfl
theorem k13 : trimV a8 2 = .ok a9 := rfl
theorem k14 : popR a9 = .ok (a1, h1) := rfl
theorem k15 : isV a1 3 ⟨1, 0⟩ = true := rfl
theorem n27 (w : World) : Calls Try.prog 27 #[.pointer none, .int .i64 0, .int .i64 0, .int .i64 0] w fun e w' => e = .returned (.int .i64 1) ∧ Below w.heap.size w w' := by
  go_enter Try.func27, Try.ntmps27
  go_wp2_with fail
  refine bodyPost_ret (v := .int .i64 1) (by simp only [results, Try.results27]; go_simp) rfl ⟨rfl, ?_⟩
  exact Below.refl _ _
theorem n28 (w : World) : Calls Try.prog 28 #[.pointer none, .int .i64 0] w fun e w' => e = .returned (.int .i64 1) ∧ Below w.heap.size w w' := by
  go_enter Try.func28, Try.ntmps28
  go_wp2_with fail
  refine bodyPost_ret (v := .int .i64 1) (by simp only [results, Try.results28]; go_simp) rfl ⟨rfl, ?_⟩
  exact Below.refl _ _
theorem n20 (w : World) : Calls Try.prog 20 #[.pointer none, .int .i64 1, .agg #[.int .i64 1, .int .i64 0]] w fun e w' => e = .returned (.int .i64 1) ∧ Below w.heap.size w w' := by
  go_enter Try.func20, Try.ntmps20
  go_wp2_with fail
  refine bodyPost_ret (v := .int .i64 1) (by simp only [results, Try.results20]; go_simp) rfl ⟨rfl, ?_⟩
  exact bAlloc _ _
theorem n11 (w : World) : Calls Try.prog 11 #[.pointer none, .agg #[.int .i64 0, .slice none 0 0, .int .i64 0, .int .i64 0, .int .i64 0, .int .i64 0, .int .i64 0, .int .i64 0, .int .i64 0, .slice none 0 0, .int .i64 0]] w fun e w' => e = .returned (.int .i64 1) ∧ Below w.heap.size w w' := by
  go_enter Try.func11, Try.ntmps11
  go_wp2_with fail
  refine bodyPost_ret (v := .int .i64 1) (by simp only [results, Try.results11]; go_simp) rfl ⟨rfl, ?_⟩
  exact bAlloc _ _
theorem n13 (w : World) : Calls Try.prog 13 #[.pointer none, .int .i64 0] w fun e w' => e = .returned (.int .i64 1) ∧ Below w.heap.size w w' := by
  go_enter Try.func13, Try.ntmps13
  go_wp2_with fail
  refine bodyPost_ret (v := .int .i64 1) (by simp only [results, Try.results13]; go_simp) rfl ⟨rfl, ?_⟩
  exact Below.refl _ _
theorem n29 (w : World) : Calls Try.prog 29 #[.pointer none] w fun e w' => e = .returned (.tuple #[.int .i64 0, .int .i64 0, .int .i64 1]) ∧ Below w.heap.size w w' := by
  go_enter Try.func29, Try.ntmps29
  go_wp2_with fail
  refine bodyPost_ret (v := .tuple #[.int .i64 0, .int .i64 0, .int .i64 1]) (by simp only [results, Try.results29]; go_simp) rfl ⟨rfl, ?_⟩
  exact Below.refl _ _
theorem n14 (w : World) : Calls Try.prog 14 #[.pointer none] w fun e w' => e = .returned (.tuple #[chZ, .int .i64 1]) ∧ Below w.heap.size w w' := by
  go_enter Try.func14, Try.ntmps14
  go_wp2_with fail
  refine bodyPost_ret (v := .tuple #[chZ, .int .i64 1]) (by simp only [results, Try.results14]; go_simp) rfl ⟨rfl, ?_⟩
  exact bAlloc _ _
section
variable {B p : Nat}
theorem d1 (w : World) (h : OwnP w B p s0) : Calls Try.prog 27 #[.pointer (some ⟨p, 0, none⟩), .int .i64 (-1), .int .i64 0, .int .i64 0] w (RetO B p (.int .i64 1) s0 w) := by
  have h := alloc_own (-1) 0 0 w h z0
  rw [k1] at h
  exact h
theorem d2 (w : World) (h : OwnP w B p s0) : Calls Try.prog 27 #[.pointer (some ⟨p, 0, none⟩), .int .i64 4097, .int .i64 0, .int .i64 0] w (RetO B p (.int .i64 1) s0 w) := by
  have h := alloc_own 4097 0 0 w h z0
  rw [k2] at h
  exact h
theorem d3 (w : World) (h : OwnP w B p s0) : Calls Try.prog 27 #[.pointer (some ⟨p, 0, none⟩), .int .i64 0, .int .i64 0, .int .i64 (-1)] w (RetO B p (.int .i64 1) s0 w) := by
  have h := alloc_own 0 0 (-1) w h z0
  rw [k3] at h
  exact h
theorem d4 (w : World) (h : OwnP w B p s0) : Calls Try.prog 28 #[.pointer (some ⟨p, 0, none⟩), .int .i64 0] w (RetO B p (.int .i64 5) s0 w) := by
  have h := trim_own 0 w h z0
  rw [k4] at h
  exact h
theorem d5 (w : World) (h : OwnP w B p s0) : Calls Try.prog 27 #[.pointer (some ⟨p, 0, none⟩), .int .i64 3, .int .i64 1, .int .i64 0] w (RetO B p (.int .i64 0) a1 w) := by
  have h := alloc_own 3 1 0 w h z0
  rw [k5] at h
  exact h
theorem d6 (w : World) (h : OwnP w B p a1) : Calls Try.prog 11 #[.pointer (some ⟨p, 0, none⟩), .agg #[.int .i64 1, .slice none 0 0, .int .i64 0, .int .i64 0, .int .i64 0, .int .i64 0, .int .i64 0, .int .i64 0, .int .i64 0, .slice none 0 0, .int .i64 0]] w (RetO B p (.int .i64 0) a2 w) := by
  have h := push_own (x := chK 1) (Aa := none) (Ab := none) (ca := 0) (cb := 0) w h a1_z nilC (nilR _ _) (by decide) nilC (nilR _ _) (by decide)
  rw [k6] at h
  exact h
theorem d7 (w : World) (h : OwnP w B p a2) : Calls Try.prog 27 #[.pointer (some ⟨p, 0, none⟩), .int .i64 1, .int .i64 2, .int .i64 0] w (RetO B p (.int .i64 0) a3 w) := by
  have h := alloc_own 1 2 0 w h a2_z
  rw [k7] at h
  exact h
theorem d8 (w : World) (h : OwnP w B p a3) : Calls Try.prog 11 #[.pointer (some ⟨p, 0, none⟩), .agg #[.int .i64 2, .slice none 0 0, .int .i64 0, .int .i64 0, .int .i64 0, .int .i64 0, .int .i64 0, .int .i64 0, .int .i64 0, .slice none 0 0, .int .i64 0]] w (RetO B p (.int .i64 0) a4 w) := by
  have h := push_own (x := chK 2) (Aa := none) (Ab := none) (ca := 0) (cb := 0) w h a3_z nilC (nilR _ _) (by decide) nilC (nilR _ _) (by decide)
  rw [k8] at h
  exact h
theorem d9 (w : World) (h : OwnP w B p a4) : Calls Try.prog 28 #[.pointer (some ⟨p, 0, none⟩), .int .i64 0] w (RetO B p (.int .i64 0) a4 w) := by
  have h := trim_own 0 w h a4_z
  rw [k9] at h
  exact h
theorem d10 (w : World) (h : OwnP w B p a4) : Calls Try.prog 29 #[.pointer (some ⟨p, 0, none⟩)] w (RetO B p (.tuple #[.int .i64 2, .int .i64 0, .int .i64 0]) a6 w) := by
  have h := free_own w h a4_z
  rw [k10] at h
  exact h
theorem d11 (w : World) (h : OwnP w B p a6) : Calls Try.prog 20 #[.pointer (some ⟨p, 0, none⟩), .int .i64 3, .agg #[.int .i64 1, .int .i64 9]] w (RetO B p (.int .i64 0) a7 w) := by
  have h := set_own 3 ⟨1, 9⟩ w h a6_z
  rw [k11] at h
  exact h
theorem d12 (w : World) (h : OwnP w B p a7) : Calls Try.prog 13 #[.pointer (some ⟨p, 0, none⟩), .int .i64 1] w (RetO B p (.int .i64 0) a8 w) := by
  have h := cut_own 1 w h a7_z
  rw [k12] at h
  exact h
theorem d13 (w : World) (h : OwnP w B p a8) : Calls Try.prog 28 #[.pointer (some ⟨p, 0, none⟩), .int .i64 2] w (RetO B p (.int .i64 0) a9 w) := by
  have h := trim_own 2 w h a8_z
  rw [k13] at h
  exact h
theorem d14 (w : World) (h : OwnP w B p a9) : Calls Try.prog 14 #[.pointer (some ⟨p, 0, none⟩)] w (RetC B p h1 0 a1 w) := by
  have h := pop_own w h a9_z
  rw [k14] at h
  exact h
end
theorem not_good1 : ¬ Good ⟨[], 1, []⟩ := fun g => by have := g.len; exact absurd this (by decide)
theorem not_good2 : ¬ Good ⟨[], 0, [⟨0, [], 0, 0, 0, 0, 0, 0, 1, [], 0⟩]⟩ := fun g => by have := (g.ch 0 _ rfl).2; exact absurd this (by decide)
theorem good0 : Good s0 := ⟨by decide, by decide, fun i x hx => by simp [s0] at hx, fun i x hx => by simp [s0] at hx, by decide, by decide⟩
theorem validP_no {A A' : Option Addr} {c c' : Nat} {s : St} (w : World) (h : StAt w A c A' c' s) (hn : s.envs.length ≤ 10000000000000) (hnc : s.chs.length ≤ 10000000000000) (hny : ∀ x ∈ s.envs, x.y.length ≤ 10000000000000) (hg : ¬ Good s) :
    Calls Try.prog 25 #[stV s A c A' c'] w fun e w' => e = .returned (.bool false) ∧ Below w.heap.size w w' :=
  (validP_any w h hn hnc hny).mono fun e w' hr => by
    obtain ⟨hv, hb⟩ := hr
    obtain ⟨b, rfl, hbg⟩ := hv.bool
    cases b
    · exact ⟨rfl, hb⟩
    · exact absurd (hbg.1 rfl) hg
theorem validP_yes {A A' : Option Addr} {c c' : Nat} {s : St} (w : World) (h : StAt w A c A' c' s) (hg : Good s) :
    Calls Try.prog 25 #[stV s A c A' c'] w fun e w' => e = .returned (.bool true) ∧ Below w.heap.size w w' :=
  (validP_any w h (by have := hg.envs; omega) (by have := hg.chs; omega) (fun x hx => Nat.le_trans (hg.sized.y x hx) (by omega))).mono fun e w' hr => by
    obtain ⟨hv, hb⟩ := hr
    obtain ⟨b, rfl, hbg⟩ := hv.bool
    cases b
    · exact absurd (hbg.2 hg) Bool.false_ne_true
    · exact ⟨rfl, hb⟩
set_option maxHeartbeats 8000000 in
set_option maxRecDepth 100000 in
theorem law_known (w : World) : Calls Try.prog 7 #[] w fun e w' => e = .returned (.bool true) ∧ Below w.heap.size w w' := by
  go_enter Try.func7, Try.ntmps7
  go_wp2_with fail
  refine (n27 _).mono ?_
  rintro e w1 ⟨rfl, hb⟩
  have HBw1 := Lib.hid (hb)
  clear hb
  go_wp2_with fail
  refine (n28 _).mono ?_
  rintro e w2 ⟨rfl, hb⟩
  have HBw2 := Lib.hid (bNext HBw1.out hb)
  clear hb HBw1
  go_wp2_with fail
  refine (cell_any 0 _).mono ?_
  rintro e w3 ⟨rfl, hb⟩
  have HBw3 := Lib.hid (bNext HBw2.out hb)
  clear hb HBw2
  go_wp2_with fail
  refine (n20 _).mono ?_
  rintro e w4 ⟨rfl, hb⟩
  have HBw4 := Lib.hid (bNext HBw3.out hb)
  clear hb HBw3
  go_wp2_with fail
  refine (n11 _).mono ?_
  rintro e w5 ⟨rfl, hb⟩
  have HBw5 := Lib.hid (bNext HBw4.out hb)
  clear hb HBw4
  go_wp2_with fail
  refine (n13 _).mono ?_
  rintro e w6 ⟨rfl, hb⟩
  have HBw6 := Lib.hid (bNext HBw5.out hb)
  clear hb HBw5
  go_wp2_with fail
  refine (n29 _).mono ?_
  rintro e w7 ⟨rfl, hb⟩
  have HBw7 := Lib.hid (bNext HBw6.out hb)
  clear hb HBw6
  go_wp2_with fail
  refine (n14 _).mono ?_
  rintro e w8 ⟨rfl, hb⟩
  have HBw8 := Lib.hid (bNext HBw7.out hb)
  clear hb HBw7
  go_upto_region 6 with fail
  obtain ⟨X1, HX1⟩ : ∃ X, Hid (X = w8.alloc (.cells #[.int .i64 0, .slice none 0 0, .int .i64 0, .int .i64 0, .int .i64 0, .int .i64 0, .int .i64 0, .int .i64 0, .int .i64 0, .slice none 0 0, .int .i64 0] 29)) := ⟨_, rfl⟩
  have hbX1 : Below w8.heap.size w8 X1 := by rw [HX1.out]; exact bAlloc _ _
  rw [← HX1.out]
  obtain ⟨X, HX⟩ : ∃ X, Hid (X = X1.alloc (.cells #[.slice none 0 0, .int .i64 0, .slice none 0 0] 25)) := ⟨_, rfl⟩
  have hbX : Below X1.heap.size X1 X := by rw [HX.out]; exact bAlloc _ _
  obtain ⟨q, hq0⟩ : ∃ q, Hid (q = w8.heap.size + 1) := ⟨_, rfl⟩
  have hq : Hid (q = X1.heap.size) := Lib.hid (by rw [hq0.out, HX1.out, World.size_alloc])
  have hkX : Blk X q 25 #[.slice none 0 0, .int .i64 0, .slice none 0 0] := by rw [HX.out, hq.out]; exact Blk.new _ _ _
  rw [← HX.out, ← hq0.out]
  have hbq := bNext HBw8.out hbX1
  have hwq : w.heap.size ≤ q := by rw [hq.out]; exact hbq.size
  have HB : Hid (Below w.heap.size w X) := Lib.hid (bNext hbq hbX)
  have H0 : Hid (OwnP X q q s0) := Lib.hid ⟨.slice none 0 0, .slice none 0 0, [], [], hkX, Nat.le_refl _, World.ownsRow_nil _ _ _ _, World.ownsRow_nil _ _ _ _, rfl, rfl, fun i x v hx => by simp [s0] at hx, fun i x v hx => by simp [s0] at hx, List.nodup_nil⟩
  clear HX1 HX hbX1 hbX hkX hbq HBw8 hq hq0
  go_wp2_with fail
  refine (d1 _ H0.out).mono ?_
  rintro e w1 ⟨rfl, h1', hb1⟩
  have H1 := Lib.hid h1'
  have HB1 := Lib.hid (HB.out.trans (hb1.mono hwq))
  clear h1' hb1 H0 HB
  have H0 := H1
  have HB := HB1
  clear H1 HB1
  go_wp2_with fail
  refine (d2 _ H0.out).mono ?_
  rintro e w1 ⟨rfl, h1', hb1⟩
  have H1 := Lib.hid h1'
  have HB1 := Lib.hid (HB.out.trans (hb1.mono hwq))
  clear h1' hb1 H0 HB
  have H0 := H1
  have HB := HB1
  clear H1 HB1
  go_wp2_with fail
  refine (d3 _ H0.out).mono ?_
  rintro e w1 ⟨rfl, h1', hb1⟩
  have H1 := Lib.hid h1'
  have HB1 := Lib.hid (HB.out.trans (hb1.mono hwq))
  clear h1' hb1 H0 HB
  have H0 := H1
  have HB := HB1
  clear H1 HB1
  go_wp2_with fail
  refine (d4 _ H0.out).mono ?_
  rintro e w1 ⟨rfl, h1', hb1⟩
  have H1 := Lib.hid h1'
  have HB1 := Lib.hid (HB.out.trans (hb1.mono hwq))
  clear h1' hb1 H0 HB
  have H0 := H1
  have HB := HB1
  clear H1 HB1
  obtain ⟨A, c, A', c', hkb, hat⟩ := H0.out.at
  have t0 := hkb.cell 0
  have t1 := hkb.cell 1
  have t2 := hkb.cell 2
  have tl := hkb.lt
  simp at t0 t1 t2
  clear hkb
  go_wp2_with fail
  refine (validP_yes _ hat good0).mono ?_
  rintro e w1 ⟨rfl, hb1⟩
  clear t0 t1 t2 tl hat
  have H1 := Lib.hid (H0.out.next hb1)
  have HB1 := Lib.hid (bNext HB.out hb1)
  clear hb1 H0 HB
  have H0 := H1
  have HB := HB1
  clear H1 HB1
  go_wp2_with fail
  refine (d5 _ H0.out).mono ?_
  rintro e w1 ⟨rfl, h1', hb1⟩
  have H1 := Lib.hid h1'
  have HB1 := Lib.hid (HB.out.trans (hb1.mono hwq))
  clear h1' hb1 H0 HB
  have H0 := H1
  have HB := HB1
  clear H1 HB1
  go_wp2_with fail
  refine (d6 _ H0.out).mono ?_
  rintro e w1 ⟨rfl, h1', hb1⟩
  have H1 := Lib.hid h1'
  have HB1 := Lib.hid (HB.out.trans (hb1.mono hwq))
  clear h1' hb1 H0 HB
  have H0 := H1
  have HB := HB1
  clear H1 HB1
  go_wp2_with fail
  refine (d7 _ H0.out).mono ?_
  rintro e w1 ⟨rfl, h1', hb1⟩
  have H1 := Lib.hid h1'
  have HB1 := Lib.hid (HB.out.trans (hb1.mono hwq))
  clear h1' hb1 H0 HB
  have H0 := H1
  have HB := HB1
  clear H1 HB1
  go_wp2_with fail
  refine (d8 _ H0.out).mono ?_
  rintro e w1 ⟨rfl, h1', hb1⟩
  have H1 := Lib.hid h1'
  have HB1 := Lib.hid (HB.out.trans (hb1.mono hwq))
  clear h1' hb1 H0 HB
  have H0 := H1
  have HB := HB1
  clear H1 HB1
  obtain ⟨A, c, A', c', ys, cs, hs⟩ := H0.out.open
  obtain ⟨t0, t1, t2⟩ := hs.cells
  have tl := hs.box.lt
  obtain ⟨g, cap, u, ge, gc, -, -, -, -, -, -, -, -, -, m0, -, -⟩ := hs.chAt (i := 0) (x := h1) rfl
  obtain ⟨g', cap', u', ge', gc', -, -, -, -, -, -, -, -, -, m1, -, -⟩ := hs.chAt (i := 1) (x := h2) rfl
  injection ge with ge el ecap
  clear el
  subst ge ecap
  injection ge' with ge' el ecap
  injection ge' with ge'
  injection ge' with ge' _ _
  clear el ecap
  subst ge'
  simp only [a4, h1, h2, List.length_cons, List.length_nil, Nat.zero_add, Nat.zero_mul, Nat.one_mul] at t0 t1 t2 m0 m1
  clear hs gc gc'
  go_wp2_with fail
  refine (d9 _ H0.out).mono ?_
  rintro e w1 ⟨rfl, h1', hb1⟩
  have H1 := Lib.hid h1'
  have HB1 := Lib.hid (HB.out.trans (hb1.mono hwq))
  clear h1' hb1 H0 HB t0 t1 t2 tl m0 m1
  have H0 := H1
  have HB := HB1
  clear H1 HB1
  obtain ⟨A, c, A', c', ys, cs, hs⟩ := H0.out.open
  obtain ⟨t0, t1, t2⟩ := hs.cells
  have tl := hs.box.lt
  obtain ⟨g, cap, u, ge, gc, -, hr, p0, -, -, p3⟩ := hs.enAt (i := 1) (x := f1) rfl
  injection ge with ge el ecap
  clear el
  subst ge ecap
  obtain ⟨Ay, cy, rfl, hcy⟩ := own_form hr
  simp only [a4, f1, List.length_cons, List.length_nil, Nat.zero_add, Nat.one_mul] at t0 t1 t2 p0 p3
  clear hs gc hr
  go_wp2_with fail
  refine (d10 _ H0.out).mono ?_
  rintro e w1 ⟨rfl, h1', hb1⟩
  have H1 := Lib.hid h1'
  have HB1 := Lib.hid (HB.out.trans (hb1.mono hwq))
  clear h1' hb1 H0 HB t0 t1 t2 tl p0 p3 hcy
  have H0 := H1
  have HB := HB1
  clear H1 HB1
  obtain ⟨A, c, A', c', ys, cs, hs⟩ := H0.out.open
  obtain ⟨t0, t1, t2⟩ := hs.cells
  have tl := hs.box.lt
  simp only [a6, List.length_cons, List.length_nil, Nat.zero_add] at t0 t1 t2
  clear hs
  go_wp2_with fail
  refine (cell_any 9 _).mono ?_
  rintro e w1 ⟨rfl, hb1⟩
  clear t0 t1 t2 tl
  have H1 := Lib.hid (H0.out.next hb1)
  have HB1 := Lib.hid (bNext HB.out hb1)
  clear hb1 H0 HB
  have H0 := H1
  have HB := HB1
  clear H1 HB1
  go_wp2_with fail
  refine (d11 _ H0.out).mono ?_
  rintro e w1 ⟨rfl, h1', hb1⟩
  have H1 := Lib.hid h1'
  have HB1 := Lib.hid (HB.out.trans (hb1.mono hwq))
  clear h1' hb1 H0 HB
  have H0 := H1
  have HB := HB1
  clear H1 HB1
  obtain ⟨A, c, A', c', ys, cs, hs⟩ := H0.out.open
  obtain ⟨t0, t1, t2⟩ := hs.cells
  have tl := hs.box.lt
  obtain ⟨g, cap, u, ge, gc, -, hr, p0, -, -, p3⟩ := hs.enAt (i := 2) (x := f2) rfl
  injection ge with ge el ecap
  clear el
  subst ge ecap
  obtain ⟨Ay, cy, rfl, hcy⟩ := own_form hr
  simp only [a7, f2, List.length_cons, List.length_nil, Nat.zero_add] at t0 t1 t2 p0 p3
  clear hs gc hr
  go_wp2_with fail
  refine (d12 _ H0.out).mono ?_
  rintro e w1 ⟨rfl, h1', hb1⟩
  have H1 := Lib.hid h1'
  have HB1 := Lib.hid (HB.out.trans (hb1.mono hwq))
  clear h1' hb1 H0 HB t0 t1 t2 tl p0 p3 hcy
  have H0 := H1
  have HB := HB1
  clear H1 HB1
  obtain ⟨A, c, A', c', ys, cs, hs⟩ := H0.out.open
  obtain ⟨t0, t1, t2⟩ := hs.cells
  have tl := hs.box.lt
  simp only [a8, List.length_cons, List.length_nil, Nat.zero_add] at t0 t1 t2
  clear hs
  go_wp2_with fail
  refine (d13 _ H0.out).mono ?_
  rintro e w1 ⟨rfl, h1', hb1⟩
  have H1 := Lib.hid h1'
  have HB1 := Lib.hid (HB.out.trans (hb1.mono hwq))
  clear h1' hb1 H0 HB t0 t1 t2 tl
  have H0 := H1
  have HB := HB1
  clear H1 HB1
  obtain ⟨A, c, A', c', ys, cs, hs⟩ := H0.out.open
  obtain ⟨t0, t1, t2⟩ := hs.cells
  have tl := hs.box.lt
  obtain ⟨g, cap, u, ge, gc, -, hr, p0, -, -, p3⟩ := hs.enAt (i := 2) (x := f3) rfl
  injection ge with ge el ecap
  clear el
  subst ge ecap
  obtain ⟨Ay, cy, rfl, hcy⟩ := own_form hr
  simp only [a9, f3, List.length_cons, List.length_nil, Nat.zero_add] at t0 t1 t2 p0 p3
  clear hs gc hr
  go_wp2_with fail
  refine (d14 _ H0.out).mono ?_
  rintro e w3 ⟨B1, b1, B2, b2, ⟨rfl, h1', hb1⟩, -, -⟩
  clear t0 t1 t2 tl p0 p3 hcy
  have H1 := Lib.hid h1'
  have HB1 := Lib.hid (HB.out.trans (hb1.mono hwq))
  clear h1' hb1 H0 HB
  have H0 := H1
  have HB := HB1
  clear H1 HB1
  dsimp only [chV, h1]
  go_upto_region 20 with fail
  obtain ⟨X, HX⟩ : ∃ X, Hid (X = w3.alloc (.cells #[.int .i64 1, .slice B1 0 b1, .int .i64 1, .int .i64 0, .int .i64 0, .int .i64 0, .int .i64 0, .int .i64 0, .int .i64 1, .slice B2 0 b2, .int .i64 0] 29)) := ⟨_, rfl⟩
  obtain ⟨r, hr⟩ : ∃ r, Hid (r = w3.heap.size) := ⟨_, rfl⟩
  have hb1 : Below w3.heap.size w3 X := by rw [HX.out]; exact bAlloc _ _
  have hkX : Blk X r 29 #[.int .i64 1, .slice B1 0 b1, .int .i64 1, .int .i64 0, .int .i64 0, .int .i64 0, .int .i64 0, .int .i64 0, .int .i64 1, .slice B2 0 b2, .int .i64 0] := by rw [HX.out, hr.out]; exact Blk.new _ _ _
  rw [← HX.out, ← hr.out]
  clear HX hr
  have H1 := Lib.hid (H0.out.next hb1)
  have HB1 := Lib.hid (bNext HB.out hb1)
  clear hb1 H0 HB
  have H0 := H1
  have HB := HB1
  clear H1 HB1
  obtain ⟨X0, HX0⟩ : ∃ X', Hid (X' = X.drew) := ⟨_, rfl⟩
  have hb1 : Below X.heap.size X X0 := by rw [HX0.out]; exact bDrew _
  have hk1 := hkX.next hb1
  have k0 := hk1.cell 0
  have kl := hk1.lt
  simp at k0
  clear hk1 hkX
  have H1 := Lib.hid (H0.out.next hb1)
  have HB1 := Lib.hid (bNext HB.out hb1)
  clear hb1 H0 HB
  have H0 := H1
  have HB := HB1
  clear H1 HB1
  obtain ⟨A, c, A', c', ys, cs, hs⟩ := H0.out.open
  obtain ⟨t0, t1, t2⟩ := hs.cells
  have tl := hs.box.lt
  have te : a1.e = 1 := rfl
  have tn : a1.envs.length = 1 := rfl
  rw [te] at t1
  rw [tn] at t0
  refine wp_region_N (fun _ => True) (fun _ => true) (by kernel_rfl) ?_
  rw [← HX0.out]
  clear HX0
  have hS0 : (fun _ : World => True) X0 := trivial
  refine wpAnyN_one (i := 0) (by kernel_rfl) rfl (fun K hK => ?_)
  simp only [List.getElem_toArray, List.getElem_cons_zero]
  go_simp
  refine hK _ _ (fun _ => trivial) ?_
  (try simp only [Act.put, List.setIfInBounds_toArray, List.set_cons_zero, List.set_cons_succ])
  refine wpAnyN_one (i := 1) (by kernel_rfl) rfl (fun K hK => ?_)
  simp only [List.getElem_toArray, List.getElem_cons_zero, List.getElem_cons_succ]
  go_simp
  refine hK _ _ (fun _ => trivial) ?_
  (try simp only [Act.put, List.setIfInBounds_toArray, List.set_cons_zero, List.set_cons_succ])
  refine wpAnyN_one (i := 2) (by kernel_rfl) rfl (fun K hK => ?_)
  simp only [List.getElem_toArray, List.getElem_cons_zero, List.getElem_cons_succ]
  go_simp
  refine hK _ _ (fun _ => trivial) ?_
  (try simp only [Act.put, List.setIfInBounds_toArray, List.set_cons_zero, List.set_cons_succ])
  refine wpAnyN_one (i := 3) (by kernel_rfl) rfl (fun K hK => ?_)
  simp only [List.getElem_toArray, List.getElem_cons_zero, List.getElem_cons_succ]
  go_simp
  refine hK _ _ (fun _ => trivial) ?_
  (try simp only [Act.put, List.setIfInBounds_toArray, List.set_cons_zero, List.set_cons_succ])
  refine wpAnyN_one (i := 4) (by kernel_rfl) rfl (fun K hK => ?_)
  simp only [List.getElem_toArray, List.getElem_cons_zero, List.getElem_cons_succ]
  go_simp
  refine hK _ _ (fun _ => trivial) ?_
  (try simp only [Act.put, List.setIfInBounds_toArray, List.set_cons_zero, List.set_cons_succ])
  refine wpAnyN_one (i := 5) (by kernel_rfl) rfl (fun K hK => ?_)
  simp only [List.getElem_toArray, List.getElem_cons_zero, List.getElem_cons_succ]
  go_simp
  refine hK _ _ (fun _ => trivial) ?_
  (try simp only [Act.put, List.setIfInBounds_toArray, List.set_cons_zero, List.set_cons_succ])
  refine wpAnyN_one (i := 6) (by kernel_rfl) rfl (fun K hK => ?_)
  simp only [List.getElem_toArray, List.getElem_cons_zero, List.getElem_cons_succ]
  go_simp
  refine hK _ _ (fun _ => trivial) ?_
  (try simp only [Act.put, List.setIfInBounds_toArray, List.set_cons_zero, List.set_cons_succ])
  refine wpAnyN_one (i := 7) (by kernel_rfl) rfl (fun K hK => ?_)
  simp only [List.getElem_toArray, List.getElem_cons_zero, List.getElem_cons_succ]
  go_simp
  refine hK _ _ (fun _ => trivial) ?_
  (try simp only [Act.put, List.setIfInBounds_toArray, List.set_cons_zero, List.set_cons_succ])
  refine wpAnyN_one (i := 8) (by kernel_rfl) rfl (fun K hK => ?_)
  simp only [List.getElem_toArray, List.getElem_cons_zero, List.getElem_cons_succ]
  go_simp
  refine hK _ _ (fun _ => trivial) ?_
  (try simp only [Act.put, List.setIfInBounds_toArray, List.set_cons_zero, List.set_cons_succ])
  refine wpAnyN_one (i := 9) (by kernel_rfl) rfl (fun K hK => ?_)
  simp only [List.getElem_toArray, List.getElem_cons_zero, List.getElem_cons_succ]
  go_simp
  refine hK _ _ (fun _ => trivial) ?_
  (try simp only [Act.put, List.setIfInBounds_toArray, List.set_cons_zero, List.set_cons_succ])
  refine wpAnyN_one (i := 10) (by kernel_rfl) rfl (fun K hK => ?_)
  simp only [List.getElem_toArray, List.getElem_cons_zero, List.getElem_cons_succ]
  go_simp
  refine hK _ _ (fun _ => trivial) ?_
  (try simp only [Act.put, List.setIfInBounds_toArray, List.set_cons_zero, List.set_cons_succ])
  refine wpAnyN_one (i := 11) (by kernel_rfl) rfl (fun K hK => ?_)
  simp only [List.getElem_toArray, List.getElem_cons_zero, List.getElem_cons_succ]
  go_simp
  refine hK _ _ (fun _ => trivial) ?_
  (try simp only [Act.put, List.setIfInBounds_toArray, List.set_cons_zero, List.set_cons_succ])
  refine wpAnyN_one (i := 12) (by kernel_rfl) rfl (fun K hK => ?_)
  simp only [List.getElem_toArray, List.getElem_cons_zero, List.getElem_cons_succ]
  go_simp
  refine hK _ _ (fun _ => trivial) ?_
  (try simp only [Act.put, List.setIfInBounds_toArray, List.set_cons_zero, List.set_cons_succ])
  refine wpAnyN_one (i := 13) (by kernel_rfl) rfl (fun K hK => ?_)
  simp only [List.getElem_toArray, List.getElem_cons_zero, List.getElem_cons_succ]
  go_simp
  refine hK _ _ (fun _ => trivial) ?_
  (try simp only [Act.put, List.setIfInBounds_toArray, List.set_cons_zero, List.set_cons_succ])
  refine wpAnyN_one (i := 14) (by kernel_rfl) rfl (fun K hK => ?_)
  simp only [List.getElem_toArray, List.getElem_cons_zero, List.getElem_cons_succ]
  go_simp
  refine hK _ _ (fun _ => trivial) ?_
  (try simp only [Act.put, List.setIfInBounds_toArray, List.set_cons_zero, List.set_cons_succ])
  refine wpAnyN_one (i := 15) (by kernel_rfl) rfl (fun K hK => ?_)
  simp only [List.getElem_toArray, List.getElem_cons_zero, List.getElem_cons_succ]
  go_simp
  refine hK _ _ (fun _ => trivial) ?_
  (try simp only [Act.put, List.setIfInBounds_toArray, List.set_cons_zero, List.set_cons_succ])
  refine wpAnyN_one (i := 16) (by kernel_rfl) rfl (fun K hK => ?_)
  simp only [List.getElem_toArray, List.getElem_cons_zero, List.getElem_cons_succ]
  go_simp
  refine hK _ _ (fun _ => trivial) ?_
  (try simp only [Act.put, List.setIfInBounds_toArray, List.set_cons_zero, List.set_cons_succ])
  refine wpAnyN_one (i := 17) (by kernel_rfl) rfl (fun K hK => ?_)
  simp only [List.getElem_toArray, List.getElem_cons_zero, List.getElem_cons_succ]
  go_simp
  refine hK _ _ (fun _ => trivial) ?_
  (try simp only [Act.put, List.setIfInBounds_toArray, List.set_cons_zero, List.set_cons_succ])
  refine wpAnyN_one (i := 18) (by kernel_rfl) rfl (fun K hK => ?_)
  simp only [List.getElem_toArray, List.getElem_cons_zero, List.getElem_cons_succ]
  go_simp
  refine hK _ _ (fun _ => trivial) ?_
  (try simp only [Act.put, List.setIfInBounds_toArray, List.set_cons_zero, List.set_cons_succ])
  refine wpAnyN_two (i := 19) (j := 20) (by kernel_rfl) rfl rfl (fun K1 hK1 => ?_) (fun K1 hK1 => ?_)
  · simp only [List.getElem_toArray, List.getElem_cons_zero, List.getElem_cons_succ]
    go_simp
    refine hK1 _ _ (fun _ => trivial) ?_
    (try simp only [Act.put, List.setIfInBounds_toArray, List.set_cons_zero, List.set_cons_succ])
    refine wpAnyN_one (i := 20) (by kernel_rfl) rfl (fun K2 hK2 => ?_)
    simp only [List.getElem_toArray, List.getElem_cons_zero, List.getElem_cons_succ]
    go_simp
    refine (cell_any 0 _).mono ?_
    rintro e w9 ⟨rfl, hb9⟩
    have hs9 := hs.next hb9
    obtain ⟨u0, u1, u2⟩ := hs9.cells
    have ul := hs9.box.lt
    rw [te] at u1
    rw [tn] at u0
    have HB9 := Lib.hid (bNext HB.out hb9)
    clear hb9 HB
    have HB := HB9
    clear HB9
    refine hK2 _ _ (fun _ => trivial) ?_
    (try simp only [Act.put, List.setIfInBounds_toArray, List.set_cons_zero, List.set_cons_succ])
    refine wpAnyN_one (i := 21) (by kernel_rfl) rfl (fun K3 hK3 => ?_)
    simp only [List.getElem_toArray, List.getElem_cons_zero, List.getElem_cons_succ]
    go_simp
    refine (is_own 3 1 0 hs9 a1_z k15).mono ?_
    rintro e w10 ⟨rfl, hb10⟩
    have HB9 := Lib.hid (bNext HB.out hb10)
    clear HB hb10 hs9 u0 u1 u2 ul
    have HB := HB9
    clear HB9
    refine hK3 _ _ (fun _ => trivial) ?_
    (try simp only [Act.put, List.setIfInBounds_toArray, List.set_cons_zero, List.set_cons_succ])
    refine wpAnyN_one (i := 22) (by kernel_rfl) rfl (fun K hK => ?_)
    simp only [List.getElem_toArray, List.getElem_cons_zero, List.getElem_cons_succ]
    go_simp
    refine hK _ _ (fun _ => trivial) ?_
    (try simp only [Act.put, List.setIfInBounds_toArray, List.set_cons_zero, List.set_cons_succ])
    refine wpAnyN_one (i := 23) (by kernel_rfl) rfl (fun K hK => ?_)
    simp only [List.getElem_toArray, List.getElem_cons_zero, List.getElem_cons_succ]
    go_simp
    refine hK _ _ (fun _ => trivial) ?_
    (try simp only [Act.put, List.setIfInBounds_toArray, List.set_cons_zero, List.set_cons_succ])
    refine wpAnyN_one (i := 24) (by kernel_rfl) rfl (fun K hK => ?_)
    simp only [List.getElem_toArray, List.getElem_cons_zero, List.getElem_cons_succ]
    go_simp
    refine hK _ _ (fun _ => trivial) ?_
    (try simp only [Act.put, List.setIfInBounds_toArray, List.set_cons_zero, List.set_cons_succ])
    refine wpAnyN_one (i := 25) (by kernel_rfl) rfl (fun K hK => ?_)
    simp only [List.getElem_toArray, List.getElem_cons_zero, List.getElem_cons_succ]
    go_simp
    have hst1 : StAt w10 none 0 none 0 ⟨[], 1, []⟩ := ⟨nilC, nilC, fun h => absurd h (Nat.lt_irrefl _), fun h => absurd h (Nat.lt_irrefl _)⟩
    refine (validP_no w10 hst1 (Nat.zero_le _) (Nat.zero_le _) (fun x hx => by cases hx) not_good1).mono ?_
    rintro e w11 ⟨rfl, hb11⟩
    have HB9 := Lib.hid (bNext HB.out hb11)
    clear HB hb11
    have HB := HB9
    clear HB9
    refine hK _ _ (fun _ => trivial) ?_
    (try simp only [Act.put, List.setIfInBounds_toArray, List.set_cons_zero, List.set_cons_succ])
    refine wpAnyN_one (i := 26) (by kernel_rfl) rfl (fun K hK => ?_)
    simp only [List.getElem_toArray, List.getElem_cons_zero, List.getElem_cons_succ]
    go_simp
    refine hK _ _ (fun _ => trivial) ?_
    (try simp only [Act.put, List.setIfInBounds_toArray, List.set_cons_zero, List.set_cons_succ])
    refine wpAnyN_one (i := 27) (by kernel_rfl) rfl (fun K hK => ?_)
    simp only [List.getElem_toArray, List.getElem_cons_zero, List.getElem_cons_succ]
    go_simp
    refine hK _ _ (fun _ => trivial) ?_
    (try simp only [Act.put, List.setIfInBounds_toArray, List.set_cons_zero, List.set_cons_succ])
    refine wpAnyN_one (i := 28) (by kernel_rfl) rfl (fun K hK => ?_)
    simp only [List.getElem_toArray, List.getElem_cons_zero, List.getElem_cons_succ]
    go_simp
    refine hK _ _ (fun _ => trivial) ?_
    (try simp only [Act.put, List.setIfInBounds_toArray, List.set_cons_zero, List.set_cons_succ])
    refine wpAnyN_one (i := 29) (by kernel_rfl) rfl (fun K hK => ?_)
    simp only [List.getElem_toArray, List.getElem_cons_zero, List.getElem_cons_succ]
    go_simp
    refine hK _ _ (fun _ => trivial) ?_
    (try simp only [Act.put, List.setIfInBounds_toArray, List.set_cons_zero, List.set_cons_succ])
    refine wpAnyN_one (i := 30) (by kernel_rfl) rfl (fun K hK => ?_)
    simp only [List.getElem_toArray, List.getElem_cons_zero, List.getElem_cons_succ]
    go_simp
    obtain ⟨X5, HX5⟩ : ∃ X, Hid (X = w11.alloc (.cells #[.int .i64 0, .slice none 0 0, .int .i64 0, .int .i64 0, .int .i64 0, .int .i64 0, .int .i64 0, .int .i64 0, .int .i64 1, .slice none 0 0, .int .i64 0] 29)) := ⟨_, rfl⟩
    obtain ⟨r5, hr5⟩ : ∃ r, Hid (r = w11.heap.size) := ⟨_, rfl⟩
    have hb5 : Below w11.heap.size w11 X5 := by rw [HX5.out]; exact bAlloc _ _
    have hk5 : Blk X5 r5 29 #[.int .i64 0, .slice none 0 0, .int .i64 0, .int .i64 0, .int .i64 0, .int .i64 0, .int .i64 0, .int .i64 0, .int .i64 1, .slice none 0 0, .int .i64 0] := by rw [HX5.out, hr5.out]; exact Blk.new _ _ _
    rw [← HX5.out, ← hr5.out]
    have HK5 := Lib.hid hk5
    have HB9 := Lib.hid (bNext HB.out hb5)
    clear HB hb5 HX5 hr5 hk5
    have HB := HB9
    clear HB9
    refine hK _ _ (fun _ => trivial) ?_
    (try simp only [Act.put, List.setIfInBounds_toArray, List.set_cons_zero, List.set_cons_succ])
    refine wpAnyN_one (i := 31) (by kernel_rfl) rfl (fun K hK => ?_)
    simp only [List.getElem_toArray, List.getElem_cons_zero, List.getElem_cons_succ]
    go_simp
    refine hK _ _ (fun _ => trivial) ?_
    (try simp only [Act.put, List.setIfInBounds_toArray, List.set_cons_zero, List.set_cons_succ])
    refine wpAnyN_one (i := 32) (by kernel_rfl) rfl (fun K hK => ?_)
    simp only [List.getElem_toArray, List.getElem_cons_zero, List.getElem_cons_succ]
    go_simp
    have hst2 : StAt X5 none 0 (some ⟨r5, 0, none⟩) 1 ⟨[], 0, [⟨0, [], 0, 0, 0, 0, 0, 0, 1, [], 0⟩]⟩ := ⟨nilC, ⟨Nat.le_refl _, fun e => by cases e⟩, fun h => absurd h (Nat.lt_irrefl _), fun _ => ⟨r5, 0, rfl, HK5.out.lt, fun i x hx => by
      cases i with
      | zero =>
        injection hx with hx
        subst hx
        exact ⟨none, 0, none, 0, HK5.out.cell 0, HK5.out.cell 1, HK5.out.cell 2, HK5.out.cell 3, HK5.out.cell 4, HK5.out.cell 5, HK5.out.cell 6, HK5.out.cell 7, HK5.out.cell 8, HK5.out.cell 9, HK5.out.cell 10, nilC, nilC, fun h => absurd h (Nat.lt_irrefl _), fun h => absurd h (Nat.lt_irrefl _)⟩
      | succ i => cases hx⟩⟩
    refine (validP_no X5 hst2 (Nat.zero_le _) (by decide) (fun x hx => by cases hx) not_good2).mono ?_
    rintro e w12 ⟨rfl, hb12⟩
    have HB9 := Lib.hid (bNext HB.out hb12)
    clear HB hb12
    have HB := HB9
    clear HB9
    refine hK _ _ (fun _ => trivial) ?_
    (try simp only [Act.put, List.setIfInBounds_toArray, List.set_cons_zero, List.set_cons_succ])
    refine wpAnyN_one (i := 33) (by kernel_rfl) rfl (fun K hK => ?_)
    simp only [List.getElem_toArray, List.getElem_cons_zero, List.getElem_cons_succ]
    go_simp
    refine hK _ _ (fun _ => trivial) ?_
    (try simp only [Act.put, List.setIfInBounds_toArray, List.set_cons_zero, List.set_cons_succ])
    refine wpAnyN_one (i := 34) (by kernel_rfl) rfl (fun K hK => ?_)
    simp only [List.getElem_toArray, List.getElem_cons_zero, List.getElem_cons_succ]
    go_simp
    refine hK _ _ (fun _ => trivial) ?_
    (try simp only [Act.put, List.setIfInBounds_toArray, List.set_cons_zero, List.set_cons_succ])
    refine wpAnyN_one (i := 35) (by kernel_rfl) rfl (fun K hK => ?_)
    simp only [List.getElem_toArray, List.getElem_cons_zero, List.getElem_cons_succ]
    go_simp
    refine hK _ _ (fun _ => trivial) ?_
    (try simp only [Act.put, List.setIfInBounds_toArray, List.set_cons_zero, List.set_cons_succ])
    refine wpAnyN_one (i := 36) (by kernel_rfl) rfl (fun K hK => ?_)
    simp only [List.getElem_toArray, List.getElem_cons_zero, List.getElem_cons_succ]
    go_simp
    refine (awake_any _).mono ?_
    rintro e w13 ⟨rfl, hb13⟩
    have HB9 := Lib.hid (bNext HB.out hb13)
    clear HB hb13
    have HB := HB9
    clear HB9
    refine hK _ _ (fun _ => trivial) ?_
    (try simp only [Act.put, List.setIfInBounds_toArray, List.set_cons_zero, List.set_cons_succ])
    refine wpAnyN_one (i := 37) (by kernel_rfl) rfl (fun K hK => ?_)
    simp only [List.getElem_toArray, List.getElem_cons_zero, List.getElem_cons_succ]
    go_simp
    refine hK _ _ (fun _ => trivial) ?_
    (try simp only [Act.put, List.setIfInBounds_toArray, List.set_cons_zero, List.set_cons_succ])
    refine wpAnyN_one (i := 38) (by kernel_rfl) rfl (fun K hK => ?_)
    simp only [List.getElem_toArray, List.getElem_cons_zero, List.getElem_cons_succ]
    go_simp
    refine hK _ _ (fun _ => trivial) ?_
    (try simp only [Act.put, List.setIfInBounds_toArray, List.set_cons_zero, List.set_cons_succ])
    refine wpAnyN_done (by kernel_rfl) ?_ _
    go_wp2_with fail
    go_ret
    exact ⟨rfl, HB.out⟩
  · simp only [List.getElem_toArray, List.getElem_cons_zero, List.getElem_cons_succ]
    go_simp
    refine (cell_any 0 _).mono ?_
    rintro e w9 ⟨rfl, hb9⟩
    have hs9 := hs.next hb9
    obtain ⟨u0, u1, u2⟩ := hs9.cells
    have ul := hs9.box.lt
    rw [te] at u1
    rw [tn] at u0
    have HB9 := Lib.hid (bNext HB.out hb9)
    clear hb9 HB
    have HB := HB9
    clear HB9
    refine hK1 _ _ (fun _ => trivial) ?_
    (try simp only [Act.put, List.setIfInBounds_toArray, List.set_cons_zero, List.set_cons_succ])
    refine wpAnyN_one (i := 19) (by kernel_rfl) rfl (fun K2 hK2 => ?_)
    simp only [List.getElem_toArray, List.getElem_cons_zero, List.getElem_cons_succ]
    go_simp
    refine hK2 _ _ (fun _ => trivial) ?_
    (try simp only [Act.put, List.setIfInBounds_toArray, List.set_cons_zero, List.set_cons_succ])
    refine wpAnyN_one (i := 21) (by kernel_rfl) rfl (fun K3 hK3 => ?_)
    simp only [List.getElem_toArray, List.getElem_cons_zero, List.getElem_cons_succ]
    go_simp
    refine (is_own 3 1 0 hs9 a1_z k15).mono ?_
    rintro e w10 ⟨rfl, hb10⟩
    have HB9 := Lib.hid (bNext HB.out hb10)
    clear HB hb10 hs9 u0 u1 u2 ul
    have HB := HB9
    clear HB9
    refine hK3 _ _ (fun _ => trivial) ?_
    (try simp only [Act.put, List.setIfInBounds_toArray, List.set_cons_zero, List.set_cons_succ])
    refine wpAnyN_one (i := 22) (by kernel_rfl) rfl (fun K hK => ?_)
    simp only [List.getElem_toArray, List.getElem_cons_zero, List.getElem_cons_succ]
    go_simp
    refine hK _ _ (fun _ => trivial) ?_
    (try simp only [Act.put, List.setIfInBounds_toArray, List.set_cons_zero, List.set_cons_succ])
    refine wpAnyN_one (i := 23) (by kernel_rfl) rfl (fun K hK => ?_)
    simp only [List.getElem_toArray, List.getElem_cons_zero, List.getElem_cons_succ]
    go_simp
    refine hK _ _ (fun _ => trivial) ?_
    (try simp only [Act.put, List.setIfInBounds_toArray, List.set_cons_zero, List.set_cons_succ])
    refine wpAnyN_one (i := 24) (by kernel_rfl) rfl (fun K hK => ?_)
    simp only [List.getElem_toArray, List.getElem_cons_zero, List.getElem_cons_succ]
    go_simp
    refine hK _ _ (fun _ => trivial) ?_
    (try simp only [Act.put, List.setIfInBounds_toArray, List.set_cons_zero, List.set_cons_succ])
    refine wpAnyN_one (i := 25) (by kernel_rfl) rfl (fun K hK => ?_)
    simp only [List.getElem_toArray, List.getElem_cons_zero, List.getElem_cons_succ]
    go_simp
    have hst1 : StAt w10 none 0 none 0 ⟨[], 1, []⟩ := ⟨nilC, nilC, fun h => absurd h (Nat.lt_irrefl _), fun h => absurd h (Nat.lt_irrefl _)⟩
    refine (validP_no w10 hst1 (Nat.zero_le _) (Nat.zero_le _) (fun x hx => by cases hx) not_good1).mono ?_
    rintro e w11 ⟨rfl, hb11⟩
    have HB9 := Lib.hid (bNext HB.out hb11)
    clear HB hb11
    have HB := HB9
    clear HB9
    refine hK _ _ (fun _ => trivial) ?_
    (try simp only [Act.put, List.setIfInBounds_toArray, List.set_cons_zero, List.set_cons_succ])
    refine wpAnyN_one (i := 26) (by kernel_rfl) rfl (fun K hK => ?_)
    simp only [List.getElem_toArray, List.getElem_cons_zero, List.getElem_cons_succ]
    go_simp
    refine hK _ _ (fun _ => trivial) ?_
    (try simp only [Act.put, List.setIfInBounds_toArray, List.set_cons_zero, List.set_cons_succ])
    refine wpAnyN_one (i := 27) (by kernel_rfl) rfl (fun K hK => ?_)
    simp only [List.getElem_toArray, List.getElem_cons_zero, List.getElem_cons_succ]
    go_simp
    refine hK _ _ (fun _ => trivial) ?_
    (try simp only [Act.put, List.setIfInBounds_toArray, List.set_cons_zero, List.set_cons_succ])
    refine wpAnyN_one (i := 28) (by kernel_rfl) rfl (fun K hK => ?_)
    simp only [List.getElem_toArray, List.getElem_cons_zero, List.getElem_cons_succ]
    go_simp
    refine hK _ _ (fun _ => trivial) ?_
    (try simp only [Act.put, List.setIfInBounds_toArray, List.set_cons_zero, List.set_cons_succ])
    refine wpAnyN_one (i := 29) (by kernel_rfl) rfl (fun K hK => ?_)
    simp only [List.getElem_toArray, List.getElem_cons_zero, List.getElem_cons_succ]
    go_simp
    refine hK _ _ (fun _ => trivial) ?_
    (try simp only [Act.put, List.setIfInBounds_toArray, List.set_cons_zero, List.set_cons_succ])
    refine wpAnyN_one (i := 30) (by kernel_rfl) rfl (fun K hK => ?_)
    simp only [List.getElem_toArray, List.getElem_cons_zero, List.getElem_cons_succ]
    go_simp
    obtain ⟨X5, HX5⟩ : ∃ X, Hid (X = w11.alloc (.cells #[.int .i64 0, .slice none 0 0, .int .i64 0, .int .i64 0, .int .i64 0, .int .i64 0, .int .i64 0, .int .i64 0, .int .i64 1, .slice none 0 0, .int .i64 0] 29)) := ⟨_, rfl⟩
    obtain ⟨r5, hr5⟩ : ∃ r, Hid (r = w11.heap.size) := ⟨_, rfl⟩
    have hb5 : Below w11.heap.size w11 X5 := by rw [HX5.out]; exact bAlloc _ _
    have hk5 : Blk X5 r5 29 #[.int .i64 0, .slice none 0 0, .int .i64 0, .int .i64 0, .int .i64 0, .int .i64 0, .int .i64 0, .int .i64 0, .int .i64 1, .slice none 0 0, .int .i64 0] := by rw [HX5.out, hr5.out]; exact Blk.new _ _ _
    rw [← HX5.out, ← hr5.out]
    have HK5 := Lib.hid hk5
    have HB9 := Lib.hid (bNext HB.out hb5)
    clear HB hb5 HX5 hr5 hk5
    have HB := HB9
    clear HB9
    refine hK _ _ (fun _ => trivial) ?_
    (try simp only [Act.put, List.setIfInBounds_toArray, List.set_cons_zero, List.set_cons_succ])
    refine wpAnyN_one (i := 31) (by kernel_rfl) rfl (fun K hK => ?_)
    simp only [List.getElem_toArray, List.getElem_cons_zero, List.getElem_cons_succ]
    go_simp
    refine hK _ _ (fun _ => trivial) ?_
    (try simp only [Act.put, List.setIfInBounds_toArray, List.set_cons_zero, List.set_cons_succ])
    refine wpAnyN_one (i := 32) (by kernel_rfl) rfl (fun K hK => ?_)
    simp only [List.getElem_toArray, List.getElem_cons_zero, List.getElem_cons_succ]
    go_simp
    have hst2 : StAt X5 none 0 (some ⟨r5, 0, none⟩) 1 ⟨[], 0, [⟨0, [], 0, 0, 0, 0, 0, 0, 1, [], 0⟩]⟩ := ⟨nilC, ⟨Nat.le_refl _, fun e => by cases e⟩, fun h => absurd h (Nat.lt_irrefl _), fun _ => ⟨r5, 0, rfl, HK5.out.lt, fun i x hx => by
      cases i with
      | zero =>
        injection hx with hx
        subst hx
        exact ⟨none, 0, none, 0, HK5.out.cell 0, HK5.out.cell 1, HK5.out.cell 2, HK5.out.cell 3, HK5.out.cell 4, HK5.out.cell 5, HK5.out.cell 6, HK5.out.cell 7, HK5.out.cell 8, HK5.out.cell 9, HK5.out.cell 10, nilC, nilC, fun h => absurd h (Nat.lt_irrefl _), fun h => absurd h (Nat.lt_irrefl _)⟩
      | succ i => cases hx⟩⟩
    refine (validP_no X5 hst2 (Nat.zero_le _) (by decide) (fun x hx => by cases hx) not_good2).mono ?_
    rintro e w12 ⟨rfl, hb12⟩
    have HB9 := Lib.hid (bNext HB.out hb12)
    clear HB hb12
    have HB := HB9
    clear HB9
    refine hK _ _ (fun _ => trivial) ?_
    (try simp only [Act.put, List.setIfInBounds_toArray, List.set_cons_zero, List.set_cons_succ])
    refine wpAnyN_one (i := 33) (by kernel_rfl) rfl (fun K hK => ?_)
    simp only [List.getElem_toArray, List.getElem_cons_zero, List.getElem_cons_succ]
    go_simp
    refine hK _ _ (fun _ => trivial) ?_
    (try simp only [Act.put, List.setIfInBounds_toArray, List.set_cons_zero, List.set_cons_succ])
    refine wpAnyN_one (i := 34) (by kernel_rfl) rfl (fun K hK => ?_)
    simp only [List.getElem_toArray, List.getElem_cons_zero, List.getElem_cons_succ]
    go_simp
    refine hK _ _ (fun _ => trivial) ?_
    (try simp only [Act.put, List.setIfInBounds_toArray, List.set_cons_zero, List.set_cons_succ])
    refine wpAnyN_one (i := 35) (by kernel_rfl) rfl (fun K hK => ?_)
    simp only [List.getElem_toArray, List.getElem_cons_zero, List.getElem_cons_succ]
    go_simp
    refine hK _ _ (fun _ => trivial) ?_
    (try simp only [Act.put, List.setIfInBounds_toArray, List.set_cons_zero, List.set_cons_succ])
    refine wpAnyN_one (i := 36) (by kernel_rfl) rfl (fun K hK => ?_)
    simp only [List.getElem_toArray, List.getElem_cons_zero, List.getElem_cons_succ]
    go_simp
    refine (awake_any _).mono ?_
    rintro e w13 ⟨rfl, hb13⟩
    have HB9 := Lib.hid (bNext HB.out hb13)
    clear HB hb13
    have HB := HB9
    clear HB9
    refine hK _ _ (fun _ => trivial) ?_
    (try simp only [Act.put, List.setIfInBounds_toArray, List.set_cons_zero, List.set_cons_succ])
    refine wpAnyN_one (i := 37) (by kernel_rfl) rfl (fun K hK => ?_)
    simp only [List.getElem_toArray, List.getElem_cons_zero, List.getElem_cons_succ]
    go_simp
    refine hK _ _ (fun _ => trivial) ?_
    (try simp only [Act.put, List.setIfInBounds_toArray, List.set_cons_zero, List.set_cons_succ])
    refine wpAnyN_one (i := 38) (by kernel_rfl) rfl (fun K hK => ?_)
    simp only [List.getElem_toArray, List.getElem_cons_zero, List.getElem_cons_succ]
    go_simp
    refine hK _ _ (fun _ => trivial) ?_
    (try simp only [Act.put, List.setIfInBounds_toArray, List.set_cons_zero, List.set_cons_succ])
    refine wpAnyN_done (by kernel_rfl) ?_ _
    go_wp2_with fail
    go_ret
    exact ⟨rfl, HB.out⟩
end Go.Proofs.Ytpkpffnabcgcbaa
