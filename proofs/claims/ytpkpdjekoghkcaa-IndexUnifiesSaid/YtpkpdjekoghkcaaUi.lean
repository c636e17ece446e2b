/-
  Walks: no bindings are valid; two terms are unified.
-/
import Derived.Test.YtpkpdjekoghkcaaUf
import Derived.Test.YtpkpdjekoghkcaaUh
namespace Go.Proofs.Ytpkpdjekoghkcaa
open Go.RowKit

theorem info4 : (Try.prog.info? 4).map (fun i => (i.zero, i.size, i.bytes)) = some (some (.bool false), 1, 1) := by kernel_rfl
theorem valid05_nil (w : World) : Calls Try.prog 46 #[.slice none 0 0] w fun e w' => e = .returned (.bool true) ∧ Below w.heap.size w w' := by
  obtain ⟨i0, hi0, hz0, hy0, hb0⟩ := info_parts info4
  go_enter Try.func46, Try.ntmps46
  go_wp2_with fail
  go_loopw [3] (fun i wr => i = .int .i64 0 ∧ Hid (wr = w)) (fun _ _ => 0)
  case atStart => exact ⟨rfl, Lib.hid rfl⟩
  case round =>
    obtain ⟨rfl, hwr⟩ := hrel
    obtain rfl := hwr.out
    clear hwr
    go_wp2_with (refine wpList_make_full _ rfl (.tmp 56) (.tmp 56) 81 rfl wr.heap.size 4 i0 _ 1 Try.underlying81 hi0 hz0 hy0 .i64 .i64 _ _ 0 rfl rfl rfl rfl (by rw [hb0]; omega) (by unfold maxLen; omega) (Nat.le_refl _) ?_)
    intro w1 hown hgr
    have HB1 := Lib.hid (bNone hgr)
    clear hown hgr
    go_wp2_with fail
    go_loopw [5] (fun i w2 => i = .int .i64 0 ∧ Hid (Below wr.heap.size wr w2)) (fun _ _ => 0)
    case atStart => exact ⟨rfl, HB1⟩
    case round =>
      obtain ⟨rfl, hwr⟩ := hrel
      go_wp2_with fail
      go_ret
      exact ⟨rfl, hwr.out⟩
/-- what a unification tells -/
def UnE (a b : Tm) (e : Ending) : Prop := ∃ (A : Option Addr) (n c : Nat) (nn er : Int), e = .returned (.tuple #[.slice A n c, .int .i64 nn, .int .i64 er]) ∧ (er = 0 → a.kind ≠ 0 → b.kind ≠ 0 → SameF a b)
set_option maxRecDepth 100000 in
set_option maxHeartbeats 4000000 in
theorem unified_any (a b : Tm) (Aa : Option Addr) (ca : Nat) (Ab : Option Addr) (cb : Nat) (w : World) (ha : ArgsAt w (Old w.heap.size) Aa a.args) (hb : ArgsAt w (Old w.heap.size) Ab b.args) (oa : TmOk a) (ob : TmOk b) :
    Calls Try.prog 47 #[.slice none 0 0, a.v Aa ca, b.v Ab cb] w fun e w' => UnE a b e ∧ Below w.heap.size w w' := by
  obtain ⟨X, HX⟩ : ∃ X, Hid (X = ((w.alloc (.cells #[.int .i64 a.kind, .int .i64 a.n, .string a.name, .slice Aa a.args.length ca] 47)).alloc (.cells #[.int .i64 b.kind, .int .i64 b.n, .string b.name, .slice Ab b.args.length cb] 47)).alloc (.cells #[.slice none 0 0, .int .i64 0] 85)) := ⟨_, rfl⟩
  have hbX : Below w.heap.size w X := by rw [HX.out]; exact ((bAlloc w _).alloc (by simp) _).alloc (by simp; omega) _
  obtain ⟨r1, hr1⟩ : ∃ q, Hid (q = w.heap.size) := ⟨_, rfl⟩
  obtain ⟨r2, hr2⟩ : ∃ q, Hid (q = w.heap.size + 1) := ⟨_, rfl⟩
  obtain ⟨qu, hqu⟩ : ∃ q, Hid (q = w.heap.size + 1 + 1) := ⟨_, rfl⟩
  have hk1 : Blk X r1 47 #[.int .i64 a.kind, .int .i64 a.n, .string a.name, .slice Aa a.args.length ca] := by rw [HX.out, hr1.out]; exact ((Blk.new w _ _).alloc _).alloc _
  have hk2 : Blk X r2 47 #[.int .i64 b.kind, .int .i64 b.n, .string b.name, .slice Ab b.args.length cb] := by
    rw [HX.out, hr2.out]
    have h1 := (Blk.new (w.alloc (.cells #[.int .i64 a.kind, .int .i64 a.n, .string a.name, .slice Aa a.args.length ca] 47)) 47 #[.int .i64 b.kind, .int .i64 b.n, .string b.name, .slice Ab b.args.length cb]).alloc (.cells #[.slice none 0 0, .int .i64 0] 85)
    rw [World.size_alloc] at h1
    exact h1
  have hk3 : Blk X qu 85 #[.slice none 0 0, .int .i64 0] := by
    rw [HX.out, hqu.out]
    have h1 := Blk.new ((w.alloc (.cells #[.int .i64 a.kind, .int .i64 a.n, .string a.name, .slice Aa a.args.length ca] 47)).alloc (.cells #[.int .i64 b.kind, .int .i64 b.n, .string b.name, .slice Ab b.args.length cb] 47)) 85 #[.slice none 0 0, .int .i64 0]
    rw [World.size_alloc, World.size_alloc] at h1
    exact h1
  have hwq : w.heap.size ≤ qu := by rw [hqu.out]; omega
  have hkF : ∀ b, Old w.heap.size b → X.heap[b]? = w.heap[b]? := fun b h => hbX.block b h
  have hGF : ∀ b, Old w.heap.size b → Nq X qu b := fun b h => ⟨Nat.lt_of_lt_of_le h hbX.size, by have h' : b < w.heap.size := h; omega⟩
  have HP := Lib.hid (pair_any _ 0 a b [] (Nat.lt_succ_self _) Aa ca Ab cb none 0 X qu (by omega) (by simp) ⟨fun x h => (by cases h), fun x h => (by cases h)⟩ oa ob hk3 (.nil _ _ _) (ha.keep hkF hGF) (hb.keep hkF hGF))
  have HB := Lib.hid hbX
  have p0 := hk1.cell 0
  have p1 := hk1.cell 1
  have p2 := hk1.cell 2
  have p3 := hk1.cell 3
  have lp := hk1.lt
  have s0 := hk2.cell 0
  have s1 := hk2.cell 1
  have s2 := hk2.cell 2
  have s3 := hk2.cell 3
  have ls := hk2.lt
  simp at p0 p1 p2 p3 s0 s1 s2 s3
  clear ha hb oa ob hbX hk1 hk2 hk3 hkF hGF
  go_enter Try.func47, Try.ntmps47
  go_upto_region 2 with fail
  rw [← HX.out, ← hqu.out, ← hr2.out, ← hr1.out]
  clear HX
  go_wp2_with fail
  refine HP.out.mono ?_
  rintro e w1 ⟨er, A', c', bs', n', rfl, hu, -, -, -, -, -, hkq, hsf⟩
  have HSF := Lib.hid hsf
  have HB1 := Lib.hid (show Below w.heap.size w w1 from HB.out.trans ⟨hkq.os, hkq.tape, hkq.output, hkq.size, fun g hg => hkq.block g (Nat.lt_of_lt_of_le hg HB.out.size) (by omega)⟩)
  have HU := Lib.hid hu
  have m0 := hu.cell 0
  have m1 := hu.cell 1
  have lm := hu.lt
  simp at m0 m1
  clear hsf hkq hu p0 p1 p2 p3 lp s0 s1 s2 s3 ls HP HB
  obtain ⟨D, hD⟩ : ∃ X, Hid (X = w1.drew) := ⟨_, rfl⟩
  have hd : Below w1.heap.size w1 D := by rw [hD.out]; exact bDrewN (Below.refl _ _) 1
  have hS0 : (fun w' => Blk w' qu 85 #[.slice A' bs'.length c', .int .i64 (n' : Int)]) D := HU.out.below hd lm
  have HBD := Lib.hid (HB1.out.trans (hd.mono HB1.out.size))
  by_cases her : er = 0
  · have herb : (er != 0) = false := by simp [her]
    have HER := Lib.hid her
    clear her
    go_upto_region 5 with fail
    refine wp_region_N (fun w' => Blk w' qu 85 #[.slice A' bs'.length c', .int .i64 (n' : Int)]) (fun _ => true) (by kernel_rfl) ?_
    rw [← hD.out]
    clear hD hd
    refine wpAnyN_take (i := 0) (v := ?v1) rfl (by kernel_rfl) (by kernel_rfl) (by kernel_rfl) (by kernel_rfl) (fun _ _ _ h => h) (Or.inl ⟨by rfl, ?hy1⟩) (by assumption) ?_
    case hy1 => intro w hSw; have m0 := hSw.cell 0; have m1 := hSw.cell 1; simp at m0 m1; go_simp; try with_reducible rfl
    simp only [Act.put, List.getElem_toArray, List.getElem_cons_zero, List.setIfInBounds_toArray, List.set_cons_zero, List.set_cons_succ]
    refine wpAnyN_take (i := 1) (v := ?v2) rfl (by kernel_rfl) (by kernel_rfl) (by kernel_rfl) (by kernel_rfl) (fun _ _ _ h => h) (Or.inl ⟨by rfl, ?hy2⟩) (by assumption) ?_
    case hy2 => intro w hSw; have m0 := hSw.cell 0; have m1 := hSw.cell 1; simp at m0 m1; go_simp; try with_reducible rfl
    simp only [Act.put, List.getElem_toArray, List.getElem_cons_zero, List.getElem_cons_succ, List.setIfInBounds_toArray, List.set_cons_zero, List.set_cons_succ]
    refine wpAnyN_take (i := 2) (v := ?v3) rfl (by kernel_rfl) (by kernel_rfl) (by kernel_rfl) (by kernel_rfl) (fun _ _ _ h => h) (Or.inl ⟨by rfl, ?hy3⟩) (by assumption) ?_
    case hy3 => intro w hSw; have m0 := hSw.cell 0; have m1 := hSw.cell 1; simp at m0 m1; go_simp; try with_reducible rfl
    simp only [Act.put, List.getElem_toArray, List.getElem_cons_zero, List.getElem_cons_succ, List.setIfInBounds_toArray, List.set_cons_zero, List.set_cons_succ]
    refine wpAnyN_take (i := 3) (v := ?v4) rfl (by kernel_rfl) (by kernel_rfl) (by kernel_rfl) (by kernel_rfl) (fun _ _ _ h => h) (Or.inl ⟨by rfl, ?hy4⟩) (by assumption) ?_
    case hy4 => intro w hSw; have m0 := hSw.cell 0; have m1 := hSw.cell 1; simp at m0 m1; go_simp; try with_reducible rfl
    simp only [Act.put, List.getElem_toArray, List.getElem_cons_zero, List.getElem_cons_succ, List.setIfInBounds_toArray, List.set_cons_zero, List.set_cons_succ]
    refine wpAnyN_take (i := 4) (v := ?v5) rfl (by kernel_rfl) (by kernel_rfl) (by kernel_rfl) (by kernel_rfl) (fun _ _ _ h => h) (Or.inl ⟨by rfl, ?hy5⟩) (by assumption) ?_
    case hy5 => intro w hSw; have m0 := hSw.cell 0; have m1 := hSw.cell 1; simp at m0 m1; go_simp; try with_reducible rfl
    simp only [Act.put, List.getElem_toArray, List.getElem_cons_zero, List.getElem_cons_succ, List.setIfInBounds_toArray, List.set_cons_zero, List.set_cons_succ]
    refine wpAnyN_take (i := 5) (v := ?v6) rfl (by kernel_rfl) (by kernel_rfl) (by kernel_rfl) (by kernel_rfl) (fun _ _ _ h => h) (Or.inl ⟨by rfl, ?hy6⟩) (by assumption) ?_
    case hy6 => intro w hSw; have m0 := hSw.cell 0; have m1 := hSw.cell 1; simp at m0 m1; go_simp; try with_reducible rfl
    simp only [Act.put, List.getElem_toArray, List.getElem_cons_zero, List.getElem_cons_succ, List.setIfInBounds_toArray, List.set_cons_zero, List.set_cons_succ]
    refine wpAnyN_take (i := 6) (v := ?v7) rfl (by kernel_rfl) (by kernel_rfl) (by kernel_rfl) (by kernel_rfl) (fun _ _ _ h => h) (Or.inl ⟨by rfl, ?hy7⟩) (by assumption) ?_
    case hy7 => intro w hSw; have m0 := hSw.cell 0; have m1 := hSw.cell 1; simp at m0 m1; go_simp; try with_reducible rfl
    simp only [Act.put, List.getElem_toArray, List.getElem_cons_zero, List.getElem_cons_succ, List.setIfInBounds_toArray, List.set_cons_zero, List.set_cons_succ]
    refine wpAnyN_take (i := 7) (v := ?v8) rfl (by kernel_rfl) (by kernel_rfl) (by kernel_rfl) (by kernel_rfl) (fun _ _ _ h => h) (Or.inl ⟨by rfl, ?hy8⟩) (by assumption) ?_
    case hy8 => intro w hSw; have m0 := hSw.cell 0; have m1 := hSw.cell 1; simp at m0 m1; go_simp; try with_reducible rfl
    simp only [Act.put, List.getElem_toArray, List.getElem_cons_zero, List.getElem_cons_succ, List.setIfInBounds_toArray, List.set_cons_zero, List.set_cons_succ]
    refine wpAnyN_take (i := 8) (v := ?v9) rfl (by kernel_rfl) (by kernel_rfl) (by kernel_rfl) (by kernel_rfl) (fun _ _ _ h => h) (Or.inl ⟨by rfl, ?hy9⟩) (by assumption) ?_
    case hy9 => intro w hSw; have m0 := hSw.cell 0; have m1 := hSw.cell 1; simp at m0 m1; go_simp; try with_reducible rfl
    simp only [Act.put, List.getElem_toArray, List.getElem_cons_zero, List.getElem_cons_succ, List.setIfInBounds_toArray, List.set_cons_zero, List.set_cons_succ]
    refine wpAnyN_take (i := 9) (v := ?v10) rfl (by kernel_rfl) (by kernel_rfl) (by kernel_rfl) (by kernel_rfl) (fun _ _ _ h => h) (Or.inl ⟨by rfl, ?hy10⟩) (by assumption) ?_
    case hy10 => intro w hSw; have m0 := hSw.cell 0; have m1 := hSw.cell 1; simp at m0 m1; go_simp; try with_reducible rfl
    simp only [Act.put, List.getElem_toArray, List.getElem_cons_zero, List.getElem_cons_succ, List.setIfInBounds_toArray, List.set_cons_zero, List.set_cons_succ]
    refine wpAnyN_take (i := 10) (v := ?v11) rfl (by kernel_rfl) (by kernel_rfl) (by kernel_rfl) (by kernel_rfl) (fun _ _ _ h => h) (Or.inl ⟨by rfl, ?hy11⟩) (by assumption) ?_
    case hy11 => intro w hSw; have m0 := hSw.cell 0; have m1 := hSw.cell 1; simp at m0 m1; go_simp; try with_reducible rfl
    simp only [Act.put, List.getElem_toArray, List.getElem_cons_zero, List.getElem_cons_succ, List.setIfInBounds_toArray, List.set_cons_zero, List.set_cons_succ]
    refine wpAnyN_done (by kernel_rfl) ?_ _
    go_wp2_with fail
    refine bodyPost_ret (v := .tuple #[.slice A' bs'.length c', .int .i64 (n' : Int), .int .i64 0]) (by simp only [results, Try.results47]; go_simp) rfl ⟨⟨_, _, _, _, 0, rfl, fun _ => HSF.out HER.out⟩, HBD.out⟩
  · have herb : (er != 0) = true := by simp [her]
    have HER := Lib.hid her
    clear her
    go_upto_region 4 with fail
    refine wp_region_N (fun w' => Blk w' qu 85 #[.slice A' bs'.length c', .int .i64 (n' : Int)]) (fun _ => true) (by kernel_rfl) ?_
    rw [← hD.out]
    clear hD hd
    refine wpAnyN_take (i := 0) (v := ?v12) rfl (by kernel_rfl) (by kernel_rfl) (by kernel_rfl) (by kernel_rfl) (fun _ _ _ h => h) (Or.inl ⟨by rfl, ?hy12⟩) (by assumption) ?_
    case hy12 => intro w hSw; have m0 := hSw.cell 0; have m1 := hSw.cell 1; simp at m0 m1; go_simp; try with_reducible rfl
    simp only [Act.put, List.getElem_toArray, List.getElem_cons_zero, List.setIfInBounds_toArray, List.set_cons_zero, List.set_cons_succ]
    refine wpAnyN_take (i := 1) (v := ?v13) rfl (by kernel_rfl) (by kernel_rfl) (by kernel_rfl) (by kernel_rfl) (fun _ _ _ h => h) (Or.inl ⟨by rfl, ?hy13⟩) (by assumption) ?_
    case hy13 => intro w hSw; have m0 := hSw.cell 0; have m1 := hSw.cell 1; simp at m0 m1; go_simp; try with_reducible rfl
    simp only [Act.put, List.getElem_toArray, List.getElem_cons_zero, List.getElem_cons_succ, List.setIfInBounds_toArray, List.set_cons_zero, List.set_cons_succ]
    refine wpAnyN_take (i := 2) (v := ?v14) rfl (by kernel_rfl) (by kernel_rfl) (by kernel_rfl) (by kernel_rfl) (fun _ _ _ h => h) (Or.inl ⟨by rfl, ?hy14⟩) (by assumption) ?_
    case hy14 => intro w hSw; have m0 := hSw.cell 0; have m1 := hSw.cell 1; simp at m0 m1; go_simp; try with_reducible rfl
    simp only [Act.put, List.getElem_toArray, List.getElem_cons_zero, List.getElem_cons_succ, List.setIfInBounds_toArray, List.set_cons_zero, List.set_cons_succ]
    refine wpAnyN_take (i := 3) (v := ?v15) rfl (by kernel_rfl) (by kernel_rfl) (by kernel_rfl) (by kernel_rfl) (fun _ _ _ h => h) (Or.inl ⟨by rfl, ?hy15⟩) (by assumption) ?_
    case hy15 => intro w hSw; have m0 := hSw.cell 0; have m1 := hSw.cell 1; simp at m0 m1; go_simp; try with_reducible rfl
    simp only [Act.put, List.getElem_toArray, List.getElem_cons_zero, List.getElem_cons_succ, List.setIfInBounds_toArray, List.set_cons_zero, List.set_cons_succ]
    refine wpAnyN_take (i := 4) (v := ?v16) rfl (by kernel_rfl) (by kernel_rfl) (by kernel_rfl) (by kernel_rfl) (fun _ _ _ h => h) (Or.inl ⟨by rfl, ?hy16⟩) (by assumption) ?_
    case hy16 => intro w hSw; have m0 := hSw.cell 0; have m1 := hSw.cell 1; simp at m0 m1; go_simp; try with_reducible rfl
    simp only [Act.put, List.getElem_toArray, List.getElem_cons_zero, List.getElem_cons_succ, List.setIfInBounds_toArray, List.set_cons_zero, List.set_cons_succ]
    refine wpAnyN_take (i := 5) (v := ?v17) rfl (by kernel_rfl) (by kernel_rfl) (by kernel_rfl) (by kernel_rfl) (fun _ _ _ h => h) (Or.inl ⟨by rfl, ?hy17⟩) (by assumption) ?_
    case hy17 => intro w hSw; have m0 := hSw.cell 0; have m1 := hSw.cell 1; simp at m0 m1; go_simp; try with_reducible rfl
    simp only [Act.put, List.getElem_toArray, List.getElem_cons_zero, List.getElem_cons_succ, List.setIfInBounds_toArray, List.set_cons_zero, List.set_cons_succ]
    refine wpAnyN_take (i := 6) (v := ?v18) rfl (by kernel_rfl) (by kernel_rfl) (by kernel_rfl) (by kernel_rfl) (fun _ _ _ h => h) (Or.inl ⟨by rfl, ?hy18⟩) (by assumption) ?_
    case hy18 => intro w hSw; have m0 := hSw.cell 0; have m1 := hSw.cell 1; simp at m0 m1; go_simp; try with_reducible rfl
    simp only [Act.put, List.getElem_toArray, List.getElem_cons_zero, List.getElem_cons_succ, List.setIfInBounds_toArray, List.set_cons_zero, List.set_cons_succ]
    refine wpAnyN_take (i := 7) (v := ?v19) rfl (by kernel_rfl) (by kernel_rfl) (by kernel_rfl) (by kernel_rfl) (fun _ _ _ h => h) (Or.inl ⟨by rfl, ?hy19⟩) (by assumption) ?_
    case hy19 => intro w hSw; have m0 := hSw.cell 0; have m1 := hSw.cell 1; simp at m0 m1; go_simp; try with_reducible rfl
    simp only [Act.put, List.getElem_toArray, List.getElem_cons_zero, List.getElem_cons_succ, List.setIfInBounds_toArray, List.set_cons_zero, List.set_cons_succ]
    refine wpAnyN_done (by kernel_rfl) ?_ _
    go_wp2_with fail
    refine bodyPost_ret (v := .tuple #[.slice none 0 0, .int .i64 (n' : Int), .int .i64 er]) (by simp only [results, Try.results47]; go_simp) rfl ⟨⟨none, 0, 0, _, er, rfl, fun h => absurd h HER.out⟩, HBD.out⟩
def UnR (a b : Tm) (e : Ending) : Prop := ∃ (A : Option Addr) (n c : Nat) (er : Int), e = .returned (.tuple #[.slice A n c, .int .i64 er]) ∧ (er = 0 → a.kind ≠ 0 → b.kind ≠ 0 → SameF a b)
set_option maxRecDepth 100000 in
set_option maxHeartbeats 4000000 in
theorem unify_any (a b : Tm) (Aa : Option Addr) (ca : Nat) (Ab : Option Addr) (cb : Nat) (w : World) (ha : ArgsAt w (Old w.heap.size) Aa a.args) (hb : ArgsAt w (Old w.heap.size) Ab b.args) :
    Calls Try.prog 30 #[.slice none 0 0, a.v Aa ca, b.v Ab cb] w fun e w' => UnR a b e ∧ Below w.heap.size w w' := by
  obtain ⟨X, HX⟩ : ∃ X, Hid (X = (w.alloc (.cells #[.int .i64 a.kind, .int .i64 a.n, .string a.name, .slice Aa a.args.length ca] 47)).alloc (.cells #[.int .i64 b.kind, .int .i64 b.n, .string b.name, .slice Ab b.args.length cb] 47)) := ⟨_, rfl⟩
  have hbX : Below w.heap.size w X := by rw [HX.out]; exact (bAlloc w _).alloc (by simp) _
  obtain ⟨r1, hr1⟩ : ∃ q, Hid (q = w.heap.size) := ⟨_, rfl⟩
  obtain ⟨r2, hr2⟩ : ∃ q, Hid (q = w.heap.size + 1) := ⟨_, rfl⟩
  have hk1 : Blk X r1 47 #[.int .i64 a.kind, .int .i64 a.n, .string a.name, .slice Aa a.args.length ca] := by rw [HX.out, hr1.out]; exact (Blk.new w _ _).alloc _
  have hk2 : Blk X r2 47 #[.int .i64 b.kind, .int .i64 b.n, .string b.name, .slice Ab b.args.length cb] := by
    rw [HX.out, hr2.out]
    have h1 := Blk.new (w.alloc (.cells #[.int .i64 a.kind, .int .i64 a.n, .string a.name, .slice Aa a.args.length ca] 47)) 47 #[.int .i64 b.kind, .int .i64 b.n, .string b.name, .slice Ab b.args.length cb]
    rw [World.size_alloc] at h1
    exact h1
  have HA := Lib.hid (ha.next hbX)
  have HB2 := Lib.hid (hb.next hbX)
  have HB := Lib.hid hbX
  have HK1 := Lib.hid hk1
  have HK2 := Lib.hid hk2
  clear ha hb hbX hk1 hk2
  go_enter Try.func30, Try.ntmps30
  go_upto_region 1 with fail
  rw [← HX.out, ← hr2.out, ← hr1.out]
  clear HX
  go_wp2_with fail
  refine (valid05_nil X).mono ?_
  rintro e w1 ⟨rfl, hb1⟩
  have HA1 := Lib.hid (HA.out.next hb1)
  have HB21 := Lib.hid (HB2.out.next hb1)
  have HBw1 := Lib.hid (bNext HB.out hb1)
  have HK11 := Lib.hid (HK1.out.below hb1 HK1.out.lt)
  have HK21 := Lib.hid (HK2.out.below hb1 HK2.out.lt)
  clear hb1
  have p0 := HK11.out.cell 0
  have p1 := HK11.out.cell 1
  have p2 := HK11.out.cell 2
  have p3 := HK11.out.cell 3
  have lp := HK11.out.lt
  have s0 := HK21.out.cell 0
  have s1 := HK21.out.cell 1
  have s2 := HK21.out.cell 2
  have s3 := HK21.out.cell 3
  have ls := HK21.out.lt
  simp at p0 p1 p2 p3 s0 s1 s2 s3
  go_wp2_with fail
  refine (valid03_any a Aa ca w1 HA1.out).mono ?_
  rintro e w2 ⟨rfl, hb2⟩
  have HA2 := Lib.hid (HA1.out.next hb2)
  have HB22 := Lib.hid (HB21.out.next hb2)
  have HBw2 := Lib.hid (bNext HBw1.out hb2)
  have HK12 := Lib.hid (HK11.out.below hb2 HK11.out.lt)
  have HK22 := Lib.hid (HK21.out.below hb2 HK21.out.lt)
  clear hb2 p0 p1 p2 p3 lp s0 s1 s2 s3 ls
  have p0 := HK12.out.cell 0
  have p1 := HK12.out.cell 1
  have p2 := HK12.out.cell 2
  have p3 := HK12.out.cell 3
  have lp := HK12.out.lt
  have s0 := HK22.out.cell 0
  have s1 := HK22.out.cell 1
  have s2 := HK22.out.cell 2
  have s3 := HK22.out.cell 3
  have ls := HK22.out.lt
  simp at p0 p1 p2 p3 s0 s1 s2 s3
  cases hva : validT a
  · go_wp2_with fail
    refine bodyPost_ret (v := .tuple #[.slice none 0 0, .int .i64 1]) (by simp only [results, Try.results30]; go_simp) rfl ⟨⟨none, 0, 0, 1, rfl, fun h => absurd h (by decide)⟩, HBw2.out⟩
  have HVA := Lib.hid hva
  clear hva
  go_wp2_with fail
  refine (valid03_any b Ab cb w2 HB22.out).mono ?_
  rintro e w3 ⟨rfl, hb3⟩
  have HA3 := Lib.hid (HA2.out.next hb3)
  have HB23 := Lib.hid (HB22.out.next hb3)
  have HBw3 := Lib.hid (bNext HBw2.out hb3)
  have HK13 := Lib.hid (HK12.out.below hb3 HK12.out.lt)
  have HK23 := Lib.hid (HK22.out.below hb3 HK22.out.lt)
  clear hb3 p0 p1 p2 p3 lp s0 s1 s2 s3 ls
  have p0 := HK13.out.cell 0
  have p1 := HK13.out.cell 1
  have p2 := HK13.out.cell 2
  have p3 := HK13.out.cell 3
  have lp := HK13.out.lt
  have s0 := HK23.out.cell 0
  have s1 := HK23.out.cell 1
  have s2 := HK23.out.cell 2
  have s3 := HK23.out.cell 3
  have ls := HK23.out.lt
  simp at p0 p1 p2 p3 s0 s1 s2 s3
  cases hvb : validT b
  · go_wp2_with fail
    refine bodyPost_ret (v := .tuple #[.slice none 0 0, .int .i64 1]) (by simp only [results, Try.results30]; go_simp) rfl ⟨⟨none, 0, 0, 1, rfl, fun h => absurd h (by decide)⟩, HBw3.out⟩
  have HVB := Lib.hid hvb
  clear hvb
  go_wp2_with fail
  refine (unified_any a b Aa ca Ab cb w3 HA3.out HB23.out (valid_ok HVA.out) (valid_ok HVB.out)).mono ?_
  rintro e w4 ⟨⟨A4, n4, c4, nn, er, rfl, hsf⟩, hb4⟩
  have HSF := Lib.hid hsf
  have HBF := Lib.hid (bNext HBw3.out hb4)
  clear hsf hb4
  go_wp2_with fail
  refine bodyPost_ret (v := .tuple #[.slice A4 n4 c4, .int .i64 er]) (by simp only [results, Try.results30]; go_simp) rfl ⟨⟨A4, n4, c4, er, rfl, HSF.out⟩, HBF.out⟩
end Go.Proofs.Ytpkpdjekoghkcaa
