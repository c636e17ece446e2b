/-
  act and want at any call.
-/
import Derived.Test.YtklpghpfdeojeaaYc
namespace Go.Proofs.Ytklpghpfdeojeaa
open Go.RowKit

set_option maxHeartbeats 4000000 in
set_option maxRecDepth 100000 in
theorem actN (v : Value) (s : Sm) (k id n eof : Int) (name al : ByteArray) (w : World) (hs : SmAt w w.heap.size v s) (k0 : ¬ k = 0) (k1 : ¬ k = 1) (k2 : ¬ k = 2) (k3 : ¬ k = 3) (k4 : ¬ k = 4) (k5 : ¬ k = 5) (k6 : ¬ k = 6) (k7 : ¬ k = 7) (k8 : ¬ k = 8) (k9 : ¬ k = 9) (k10 : ¬ k = 10) :
    Calls Try.prog 26 #[v, .agg #[.int .i64 k, .int .i64 id, .int .i64 n, .int .i64 eof, .string name, .string al]] w (RetA v s (s, ⟨0, .empty, false, 0⟩) w) := by
  obtain ⟨A0, c0, A1, c1, rfl, hcap, h0, h1⟩ := hs
  clear h0 h1 hcap
  obtain ⟨W, HWd⟩ : ∃ W, Hid (W = ((((((w.alloc (.cells #[.slice A0 s.files.length c0, .slice A1 s.opn.length c1, .int .i64 s.inp, .int .i64 s.out, .int .i64 s.nxt] 25)).alloc (.cells #[.int .i64 k, .int .i64 id, .int .i64 n, .int .i64 eof, .string name, .string al] 58)).alloc (.cells #[.slice none 0 0, .slice none 0 0, .int .i64 0, .int .i64 0, .int .i64 0] 25)).alloc (.cells #[.int .i64 0, .string ⟨#[]⟩, .bool false, .int .i64 0] 61)).alloc (.cells #[.slice A0 s.files.length c0, .slice A1 s.opn.length c1, .int .i64 s.inp, .int .i64 s.out, .int .i64 s.nxt] 25)).alloc (.cells #[.int .i64 0, .string ⟨#[]⟩, .bool false, .int .i64 0] 61))) := ⟨_, rfl⟩
  have hbW : Below w.heap.size w W := by
    rw [HWd.out]
    exact (Below.alloc (Below.alloc (Below.alloc (Below.alloc (Below.alloc (bAlloc w _) (by simp) _) (by simp; omega) _) (by simp; omega) _) (by simp; omega) _) (by simp; omega) _)
  have hzW : W.heap.size = w.heap.size + 6 := by rw [HWd.out]; simp
  have k0b : Blk W w.heap.size 25 #[.slice A0 s.files.length c0, .slice A1 s.opn.length c1, .int .i64 s.inp, .int .i64 s.out, .int .i64 s.nxt] := by rw [HWd.out]; exact (Blk.alloc (Blk.alloc (Blk.alloc (Blk.alloc (Blk.alloc (Blk.new _ _ _) (.cells #[.int .i64 k, .int .i64 id, .int .i64 n, .int .i64 eof, .string name, .string al] 58)) (.cells #[.slice none 0 0, .slice none 0 0, .int .i64 0, .int .i64 0, .int .i64 0] 25)) (.cells #[.int .i64 0, .string ⟨#[]⟩, .bool false, .int .i64 0] 61)) (.cells #[.slice A0 s.files.length c0, .slice A1 s.opn.length c1, .int .i64 s.inp, .int .i64 s.out, .int .i64 s.nxt] 25)) (.cells #[.int .i64 0, .string ⟨#[]⟩, .bool false, .int .i64 0] 61))
  have k1b : Blk W (w.heap.size + 1) 58 #[.int .i64 k, .int .i64 id, .int .i64 n, .int .i64 eof, .string name, .string al] := by
    have h := (Blk.alloc (Blk.alloc (Blk.alloc (Blk.alloc (Blk.new (w.alloc (.cells #[.slice A0 s.files.length c0, .slice A1 s.opn.length c1, .int .i64 s.inp, .int .i64 s.out, .int .i64 s.nxt] 25)) 58 #[.int .i64 k, .int .i64 id, .int .i64 n, .int .i64 eof, .string name, .string al]) (.cells #[.slice none 0 0, .slice none 0 0, .int .i64 0, .int .i64 0, .int .i64 0] 25)) (.cells #[.int .i64 0, .string ⟨#[]⟩, .bool false, .int .i64 0] 61)) (.cells #[.slice A0 s.files.length c0, .slice A1 s.opn.length c1, .int .i64 s.inp, .int .i64 s.out, .int .i64 s.nxt] 25)) (.cells #[.int .i64 0, .string ⟨#[]⟩, .bool false, .int .i64 0] 61))
    rw [World.size_alloc] at h
    rw [HWd.out]; exact h
  have k2b : Blk W (w.heap.size + 1 + 1) 25 #[.slice none 0 0, .slice none 0 0, .int .i64 0, .int .i64 0, .int .i64 0] := by
    have h := (Blk.alloc (Blk.alloc (Blk.alloc (Blk.new ((w.alloc (.cells #[.slice A0 s.files.length c0, .slice A1 s.opn.length c1, .int .i64 s.inp, .int .i64 s.out, .int .i64 s.nxt] 25)).alloc (.cells #[.int .i64 k, .int .i64 id, .int .i64 n, .int .i64 eof, .string name, .string al] 58)) 25 #[.slice none 0 0, .slice none 0 0, .int .i64 0, .int .i64 0, .int .i64 0]) (.cells #[.int .i64 0, .string ⟨#[]⟩, .bool false, .int .i64 0] 61)) (.cells #[.slice A0 s.files.length c0, .slice A1 s.opn.length c1, .int .i64 s.inp, .int .i64 s.out, .int .i64 s.nxt] 25)) (.cells #[.int .i64 0, .string ⟨#[]⟩, .bool false, .int .i64 0] 61))
    rw [World.size_alloc, World.size_alloc] at h
    rw [HWd.out]; exact h
  have k3b : Blk W (w.heap.size + 1 + 1 + 1) 61 #[.int .i64 0, .string ⟨#[]⟩, .bool false, .int .i64 0] := by
    have h := (Blk.alloc (Blk.alloc (Blk.new (((w.alloc (.cells #[.slice A0 s.files.length c0, .slice A1 s.opn.length c1, .int .i64 s.inp, .int .i64 s.out, .int .i64 s.nxt] 25)).alloc (.cells #[.int .i64 k, .int .i64 id, .int .i64 n, .int .i64 eof, .string name, .string al] 58)).alloc (.cells #[.slice none 0 0, .slice none 0 0, .int .i64 0, .int .i64 0, .int .i64 0] 25)) 61 #[.int .i64 0, .string ⟨#[]⟩, .bool false, .int .i64 0]) (.cells #[.slice A0 s.files.length c0, .slice A1 s.opn.length c1, .int .i64 s.inp, .int .i64 s.out, .int .i64 s.nxt] 25)) (.cells #[.int .i64 0, .string ⟨#[]⟩, .bool false, .int .i64 0] 61))
    rw [World.size_alloc, World.size_alloc, World.size_alloc] at h
    rw [HWd.out]; exact h
  have k4b : Blk W (w.heap.size + 1 + 1 + 1 + 1) 25 #[.slice A0 s.files.length c0, .slice A1 s.opn.length c1, .int .i64 s.inp, .int .i64 s.out, .int .i64 s.nxt] := by
    have h := (Blk.alloc (Blk.new ((((w.alloc (.cells #[.slice A0 s.files.length c0, .slice A1 s.opn.length c1, .int .i64 s.inp, .int .i64 s.out, .int .i64 s.nxt] 25)).alloc (.cells #[.int .i64 k, .int .i64 id, .int .i64 n, .int .i64 eof, .string name, .string al] 58)).alloc (.cells #[.slice none 0 0, .slice none 0 0, .int .i64 0, .int .i64 0, .int .i64 0] 25)).alloc (.cells #[.int .i64 0, .string ⟨#[]⟩, .bool false, .int .i64 0] 61)) 25 #[.slice A0 s.files.length c0, .slice A1 s.opn.length c1, .int .i64 s.inp, .int .i64 s.out, .int .i64 s.nxt]) (.cells #[.int .i64 0, .string ⟨#[]⟩, .bool false, .int .i64 0] 61))
    rw [World.size_alloc, World.size_alloc, World.size_alloc, World.size_alloc] at h
    rw [HWd.out]; exact h
  have k5b : Blk W (w.heap.size + 1 + 1 + 1 + 1 + 1) 61 #[.int .i64 0, .string ⟨#[]⟩, .bool false, .int .i64 0] := by
    have h := (Blk.new (((((w.alloc (.cells #[.slice A0 s.files.length c0, .slice A1 s.opn.length c1, .int .i64 s.inp, .int .i64 s.out, .int .i64 s.nxt] 25)).alloc (.cells #[.int .i64 k, .int .i64 id, .int .i64 n, .int .i64 eof, .string name, .string al] 58)).alloc (.cells #[.slice none 0 0, .slice none 0 0, .int .i64 0, .int .i64 0, .int .i64 0] 25)).alloc (.cells #[.int .i64 0, .string ⟨#[]⟩, .bool false, .int .i64 0] 61)).alloc (.cells #[.slice A0 s.files.length c0, .slice A1 s.opn.length c1, .int .i64 s.inp, .int .i64 s.out, .int .i64 s.nxt] 25)) 61 #[.int .i64 0, .string ⟨#[]⟩, .bool false, .int .i64 0])
    rw [World.size_alloc, World.size_alloc, World.size_alloc, World.size_alloc, World.size_alloc] at h
    rw [HWd.out]; exact h
  have HBW := Lib.hid hbW
  clear hbW
  go_enter Try.func26, Try.ntmps26
  go_upto_region 25 with fail
  rw [← HWd.out]
  have HBx := Lib.hid HBW.out
  clear HWd
  have x2 := k2b
  have x3 := k3b
  have x4 := k4b
  have x5 := k5b
  have ga0 := x2.frozen 0
  have ga1 := x2.frozen 1
  have ga2 := x2.frozen 2
  have ga3 := x2.frozen 3
  have ga4 := x2.frozen 4
  have gb0 := x3.frozen 0
  have gb1 := x3.frozen 1
  have gb2 := x3.frozen 2
  have gb3 := x3.frozen 3
  have ca0 := x2.cell 0
  have ca1 := x2.cell 1
  have ca2 := x2.cell 2
  have ca3 := x2.cell 3
  have ca4 := x2.cell 4
  simp at ca0 ca1 ca2 ca3 ca4
  have cb0 := x3.cell 0
  have cb1 := x3.cell 1
  have cb2 := x3.cell 2
  have cb3 := x3.cell 3
  simp at cb0 cb1 cb2 cb3
  have lx := x5.lt
  refine wp_region_N (fun w' => Blk w' (w.heap.size + 1 + 1 + 1 + 1) 25 #[.slice A0 s.files.length c0, .slice A1 s.opn.length c1, .int .i64 s.inp, .int .i64 s.out, .int .i64 s.nxt] ∧ Blk w' (w.heap.size + 1 + 1 + 1 + 1 + 1) 61 #[.int .i64 0, .string ⟨#[]⟩, .bool false, .int .i64 0]) (fun j => decide (j < 3)) (by kernel_rfl) ?_
  have hS0 : (fun w' => Blk w' (w.heap.size + 1 + 1 + 1 + 1) 25 #[.slice A0 s.files.length c0, .slice A1 s.opn.length c1, .int .i64 s.inp, .int .i64 s.out, .int .i64 s.nxt] ∧ Blk w' (w.heap.size + 1 + 1 + 1 + 1 + 1) 61 #[.int .i64 0, .string ⟨#[]⟩, .bool false, .int .i64 0]) W.drew := ⟨x4, x5⟩
  refine wpAnyN_take (i := 0) (v := ?v23) rfl (by kernel_rfl) (by kernel_rfl) (by kernel_rfl) (by kernel_rfl) (fun _ _ _ h => h) (Or.inl ⟨by rfl, ?hy23⟩) (by assumption) ?_
  case hy23 => intro w hSw; obtain ⟨u4, u5⟩ := hSw; have e0 := u4.cell 0; have e1 := u4.cell 1; have e2 := u4.cell 2; have e3 := u4.cell 3; have e4 := u4.cell 4; have i0 := u5.cell 0; have i1 := u5.cell 1; have i2 := u5.cell 2; have i3 := u5.cell 3; simp at e0 e1 e2 e3 e4 i0 i1 i2 i3; go_simp; try with_reducible rfl
  simp only [Act.put, List.getElem_toArray, List.getElem_cons_zero, List.setIfInBounds_toArray, List.set_cons_zero, List.set_cons_succ]
  refine wpAnyN_take (i := 1) (v := ?v24) rfl (by kernel_rfl) (by kernel_rfl) (by kernel_rfl) (by kernel_rfl) (fun _ _ _ h => h) (Or.inl ⟨by rfl, ?hy24⟩) (by assumption) ?_
  case hy24 => intro w hSw; obtain ⟨u4, u5⟩ := hSw; have e0 := u4.cell 0; have e1 := u4.cell 1; have e2 := u4.cell 2; have e3 := u4.cell 3; have e4 := u4.cell 4; have i0 := u5.cell 0; have i1 := u5.cell 1; have i2 := u5.cell 2; have i3 := u5.cell 3; simp at e0 e1 e2 e3 e4 i0 i1 i2 i3; go_simp; try with_reducible rfl
  simp only [Act.put, List.getElem_toArray, List.getElem_cons_zero, List.getElem_cons_succ, List.setIfInBounds_toArray, List.set_cons_zero, List.set_cons_succ]
  refine wpAnyN_one (i := 2) (by kernel_rfl) rfl (fun K hK => ?_)
  simp only [List.getElem_toArray, List.getElem_cons_zero, List.getElem_cons_succ]
  go_simp
  refine hK _ _ (fun _ => ⟨by refine Blk.drew1 ?_; repeat (first | (with_reducible exact x4) | (with_reducible refine Blk.far ?_ ?_ _); rotate_left; focus (first | (simp; done) | (simp; omega))), by refine Blk.drew1 ?_; repeat (first | (with_reducible exact x5) | (with_reducible refine Blk.far ?_ ?_ _); rotate_left; focus (first | (simp; done) | (simp; omega)))⟩) ?_
  refine wpAnyN_one (i := 3) (by kernel_rfl) rfl (fun K hK => ?_)
  simp only [List.getElem_toArray, List.getElem_cons_zero, List.getElem_cons_succ]
  go_simp
  refine hK _ _ (fun h => absurd h (by decide)) ?_
  refine wpAnyN_done (by kernel_rfl) ?_ _
  go_wp2_with fail
  refine bodyPost_ret (v := .tuple #[smV A0 A1 c0 c1 s, .agg #[.int .i64 0, .string ⟨#[]⟩, .bool false, .int .i64 0]]) (by simp only [results, Try.results26]; go_simp) rfl ⟨⟨_, rfl, .inr ⟨rfl, rfl⟩⟩, ?_⟩
  refine bDrewN ?_ 1
  repeat (first | (with_reducible exact HBx.out) | ((with_reducible refine Below.setCell ?_ ?_ _); rotate_left; focus (first | (simp; done) | (simp; omega))))

theorem act_any (v : Value) (s : Sm) (x : A) (w : World) (hs : SmAt w w.heap.size v s) :
    Calls Try.prog 26 #[v, x.v] w (RetA v s (actV s x) w) := by
  obtain ⟨k, id, n, eof, name, al⟩ := x
  unfold actV
  dsimp only [A.v]
  by_cases k0 : k = 0
  · subst k0
    simpa using act0 v s id n eof name al w hs
  rw [if_neg k0]
  by_cases k1 : k = 1
  · subst k1
    simpa using act1 v s id n eof name al w hs
  rw [if_neg k1]
  by_cases k2 : k = 2
  · subst k2
    simpa using act2 v s id n eof name al w hs
  rw [if_neg k2]
  by_cases k3 : k = 3
  · subst k3
    simpa using act3 v s id n eof name al w hs
  rw [if_neg k3]
  by_cases k4 : k = 4
  · subst k4
    simpa using act4 v s id n eof name al w hs
  rw [if_neg k4]
  by_cases k5 : k = 5
  · subst k5
    simpa using act5 v s id n eof name al w hs
  rw [if_neg k5]
  by_cases k6 : k = 6
  · subst k6
    simpa using act6 v s id n eof name al w hs
  rw [if_neg k6]
  by_cases k7 : k = 7
  · subst k7
    simpa using act7 v s id n eof name al w hs
  rw [if_neg k7]
  by_cases k8 : k = 8
  · subst k8
    simpa using act8 v s id n eof name al w hs
  rw [if_neg k8]
  by_cases k9 : k = 9
  · subst k9
    simpa using act9 v s id n eof name al w hs
  rw [if_neg k9]
  by_cases k10 : k = 10
  · subst k10
    simpa using act10 v s id n eof name al w hs
  rw [if_neg k10]
  exact actN v s k id n eof name al w hs k0 k1 k2 k3 k4 k5 k6 k7 k8 k9 k10

set_option maxHeartbeats 4000000 in
set_option maxRecDepth 100000 in
theorem wantN (v : Value) (s : Sm) (k id n eof : Int) (name al : ByteArray) (w : World) (hs : SmAt w w.heap.size v s) (k0 : ¬ k = 0) (k1 : ¬ k = 1) (k2 : ¬ k = 2) (k3 : ¬ k = 3) (k4 : ¬ k = 4) (k5 : ¬ k = 5) (k6 : ¬ k = 6) (k7 : ¬ k = 7) (k8 : ¬ k = 8) (k9 : ¬ k = 9) (k10 : ¬ k = 10) :
    Calls Try.prog 27 #[v, .agg #[.int .i64 k, .int .i64 id, .int .i64 n, .int .i64 eof, .string name, .string al]] w (RetA v s (s, ⟨0, .empty, false, 0⟩) w) := by
  obtain ⟨A0, c0, A1, c1, rfl, hcap, h0, h1⟩ := hs
  clear h0 h1 hcap
  obtain ⟨W, HWd⟩ : ∃ W, Hid (W = ((((((w.alloc (.cells #[.slice A0 s.files.length c0, .slice A1 s.opn.length c1, .int .i64 s.inp, .int .i64 s.out, .int .i64 s.nxt] 25)).alloc (.cells #[.int .i64 k, .int .i64 id, .int .i64 n, .int .i64 eof, .string name, .string al] 58)).alloc (.cells #[.slice none 0 0, .slice none 0 0, .int .i64 0, .int .i64 0, .int .i64 0] 25)).alloc (.cells #[.int .i64 0, .string ⟨#[]⟩, .bool false, .int .i64 0] 61)).alloc (.cells #[.slice A0 s.files.length c0, .slice A1 s.opn.length c1, .int .i64 s.inp, .int .i64 s.out, .int .i64 s.nxt] 25)).alloc (.cells #[.int .i64 0, .string ⟨#[]⟩, .bool false, .int .i64 0] 61))) := ⟨_, rfl⟩
  have hbW : Below w.heap.size w W := by
    rw [HWd.out]
    exact (Below.alloc (Below.alloc (Below.alloc (Below.alloc (Below.alloc (bAlloc w _) (by simp) _) (by simp; omega) _) (by simp; omega) _) (by simp; omega) _) (by simp; omega) _)
  have hzW : W.heap.size = w.heap.size + 6 := by rw [HWd.out]; simp
  have k0b : Blk W w.heap.size 25 #[.slice A0 s.files.length c0, .slice A1 s.opn.length c1, .int .i64 s.inp, .int .i64 s.out, .int .i64 s.nxt] := by rw [HWd.out]; exact (Blk.alloc (Blk.alloc (Blk.alloc (Blk.alloc (Blk.alloc (Blk.new _ _ _) (.cells #[.int .i64 k, .int .i64 id, .int .i64 n, .int .i64 eof, .string name, .string al] 58)) (.cells #[.slice none 0 0, .slice none 0 0, .int .i64 0, .int .i64 0, .int .i64 0] 25)) (.cells #[.int .i64 0, .string ⟨#[]⟩, .bool false, .int .i64 0] 61)) (.cells #[.slice A0 s.files.length c0, .slice A1 s.opn.length c1, .int .i64 s.inp, .int .i64 s.out, .int .i64 s.nxt] 25)) (.cells #[.int .i64 0, .string ⟨#[]⟩, .bool false, .int .i64 0] 61))
  have k1b : Blk W (w.heap.size + 1) 58 #[.int .i64 k, .int .i64 id, .int .i64 n, .int .i64 eof, .string name, .string al] := by
    have h := (Blk.alloc (Blk.alloc (Blk.alloc (Blk.alloc (Blk.new (w.alloc (.cells #[.slice A0 s.files.length c0, .slice A1 s.opn.length c1, .int .i64 s.inp, .int .i64 s.out, .int .i64 s.nxt] 25)) 58 #[.int .i64 k, .int .i64 id, .int .i64 n, .int .i64 eof, .string name, .string al]) (.cells #[.slice none 0 0, .slice none 0 0, .int .i64 0, .int .i64 0, .int .i64 0] 25)) (.cells #[.int .i64 0, .string ⟨#[]⟩, .bool false, .int .i64 0] 61)) (.cells #[.slice A0 s.files.length c0, .slice A1 s.opn.length c1, .int .i64 s.inp, .int .i64 s.out, .int .i64 s.nxt] 25)) (.cells #[.int .i64 0, .string ⟨#[]⟩, .bool false, .int .i64 0] 61))
    rw [World.size_alloc] at h
    rw [HWd.out]; exact h
  have k2b : Blk W (w.heap.size + 1 + 1) 25 #[.slice none 0 0, .slice none 0 0, .int .i64 0, .int .i64 0, .int .i64 0] := by
    have h := (Blk.alloc (Blk.alloc (Blk.alloc (Blk.new ((w.alloc (.cells #[.slice A0 s.files.length c0, .slice A1 s.opn.length c1, .int .i64 s.inp, .int .i64 s.out, .int .i64 s.nxt] 25)).alloc (.cells #[.int .i64 k, .int .i64 id, .int .i64 n, .int .i64 eof, .string name, .string al] 58)) 25 #[.slice none 0 0, .slice none 0 0, .int .i64 0, .int .i64 0, .int .i64 0]) (.cells #[.int .i64 0, .string ⟨#[]⟩, .bool false, .int .i64 0] 61)) (.cells #[.slice A0 s.files.length c0, .slice A1 s.opn.length c1, .int .i64 s.inp, .int .i64 s.out, .int .i64 s.nxt] 25)) (.cells #[.int .i64 0, .string ⟨#[]⟩, .bool false, .int .i64 0] 61))
    rw [World.size_alloc, World.size_alloc] at h
    rw [HWd.out]; exact h
  have k3b : Blk W (w.heap.size + 1 + 1 + 1) 61 #[.int .i64 0, .string ⟨#[]⟩, .bool false, .int .i64 0] := by
    have h := (Blk.alloc (Blk.alloc (Blk.new (((w.alloc (.cells #[.slice A0 s.files.length c0, .slice A1 s.opn.length c1, .int .i64 s.inp, .int .i64 s.out, .int .i64 s.nxt] 25)).alloc (.cells #[.int .i64 k, .int .i64 id, .int .i64 n, .int .i64 eof, .string name, .string al] 58)).alloc (.cells #[.slice none 0 0, .slice none 0 0, .int .i64 0, .int .i64 0, .int .i64 0] 25)) 61 #[.int .i64 0, .string ⟨#[]⟩, .bool false, .int .i64 0]) (.cells #[.slice A0 s.files.length c0, .slice A1 s.opn.length c1, .int .i64 s.inp, .int .i64 s.out, .int .i64 s.nxt] 25)) (.cells #[.int .i64 0, .string ⟨#[]⟩, .bool false, .int .i64 0] 61))
    rw [World.size_alloc, World.size_alloc, World.size_alloc] at h
    rw [HWd.out]; exact h
  have k4b : Blk W (w.heap.size + 1 + 1 + 1 + 1) 25 #[.slice A0 s.files.length c0, .slice A1 s.opn.length c1, .int .i64 s.inp, .int .i64 s.out, .int .i64 s.nxt] := by
    have h := (Blk.alloc (Blk.new ((((w.alloc (.cells #[.slice A0 s.files.length c0, .slice A1 s.opn.length c1, .int .i64 s.inp, .int .i64 s.out, .int .i64 s.nxt] 25)).alloc (.cells #[.int .i64 k, .int .i64 id, .int .i64 n, .int .i64 eof, .string name, .string al] 58)).alloc (.cells #[.slice none 0 0, .slice none 0 0, .int .i64 0, .int .i64 0, .int .i64 0] 25)).alloc (.cells #[.int .i64 0, .string ⟨#[]⟩, .bool false, .int .i64 0] 61)) 25 #[.slice A0 s.files.length c0, .slice A1 s.opn.length c1, .int .i64 s.inp, .int .i64 s.out, .int .i64 s.nxt]) (.cells #[.int .i64 0, .string ⟨#[]⟩, .bool false, .int .i64 0] 61))
    rw [World.size_alloc, World.size_alloc, World.size_alloc, World.size_alloc] at h
    rw [HWd.out]; exact h
  have k5b : Blk W (w.heap.size + 1 + 1 + 1 + 1 + 1) 61 #[.int .i64 0, .string ⟨#[]⟩, .bool false, .int .i64 0] := by
    have h := (Blk.new (((((w.alloc (.cells #[.slice A0 s.files.length c0, .slice A1 s.opn.length c1, .int .i64 s.inp, .int .i64 s.out, .int .i64 s.nxt] 25)).alloc (.cells #[.int .i64 k, .int .i64 id, .int .i64 n, .int .i64 eof, .string name, .string al] 58)).alloc (.cells #[.slice none 0 0, .slice none 0 0, .int .i64 0, .int .i64 0, .int .i64 0] 25)).alloc (.cells #[.int .i64 0, .string ⟨#[]⟩, .bool false, .int .i64 0] 61)).alloc (.cells #[.slice A0 s.files.length c0, .slice A1 s.opn.length c1, .int .i64 s.inp, .int .i64 s.out, .int .i64 s.nxt] 25)) 61 #[.int .i64 0, .string ⟨#[]⟩, .bool false, .int .i64 0])
    rw [World.size_alloc, World.size_alloc, World.size_alloc, World.size_alloc, World.size_alloc] at h
    rw [HWd.out]; exact h
  have HBW := Lib.hid hbW
  clear hbW
  go_enter Try.func27, Try.ntmps27
  go_upto_region 25 with fail
  rw [← HWd.out]
  have HBx := Lib.hid HBW.out
  clear HWd
  have x2 := k2b
  have x3 := k3b
  have x4 := k4b
  have x5 := k5b
  have ga0 := x2.frozen 0
  have ga1 := x2.frozen 1
  have ga2 := x2.frozen 2
  have ga3 := x2.frozen 3
  have ga4 := x2.frozen 4
  have gb0 := x3.frozen 0
  have gb1 := x3.frozen 1
  have gb2 := x3.frozen 2
  have gb3 := x3.frozen 3
  have ca0 := x2.cell 0
  have ca1 := x2.cell 1
  have ca2 := x2.cell 2
  have ca3 := x2.cell 3
  have ca4 := x2.cell 4
  simp at ca0 ca1 ca2 ca3 ca4
  have cb0 := x3.cell 0
  have cb1 := x3.cell 1
  have cb2 := x3.cell 2
  have cb3 := x3.cell 3
  simp at cb0 cb1 cb2 cb3
  have lx := x5.lt
  refine wp_region_N (fun w' => Blk w' (w.heap.size + 1 + 1 + 1 + 1) 25 #[.slice A0 s.files.length c0, .slice A1 s.opn.length c1, .int .i64 s.inp, .int .i64 s.out, .int .i64 s.nxt] ∧ Blk w' (w.heap.size + 1 + 1 + 1 + 1 + 1) 61 #[.int .i64 0, .string ⟨#[]⟩, .bool false, .int .i64 0]) (fun j => decide (j < 3)) (by kernel_rfl) ?_
  have hS0 : (fun w' => Blk w' (w.heap.size + 1 + 1 + 1 + 1) 25 #[.slice A0 s.files.length c0, .slice A1 s.opn.length c1, .int .i64 s.inp, .int .i64 s.out, .int .i64 s.nxt] ∧ Blk w' (w.heap.size + 1 + 1 + 1 + 1 + 1) 61 #[.int .i64 0, .string ⟨#[]⟩, .bool false, .int .i64 0]) W.drew := ⟨x4, x5⟩
  refine wpAnyN_take (i := 0) (v := ?v25) rfl (by kernel_rfl) (by kernel_rfl) (by kernel_rfl) (by kernel_rfl) (fun _ _ _ h => h) (Or.inl ⟨by rfl, ?hy25⟩) (by assumption) ?_
  case hy25 => intro w hSw; obtain ⟨u4, u5⟩ := hSw; have e0 := u4.cell 0; have e1 := u4.cell 1; have e2 := u4.cell 2; have e3 := u4.cell 3; have e4 := u4.cell 4; have i0 := u5.cell 0; have i1 := u5.cell 1; have i2 := u5.cell 2; have i3 := u5.cell 3; simp at e0 e1 e2 e3 e4 i0 i1 i2 i3; go_simp; try with_reducible rfl
  simp only [Act.put, List.getElem_toArray, List.getElem_cons_zero, List.setIfInBounds_toArray, List.set_cons_zero, List.set_cons_succ]
  refine wpAnyN_take (i := 1) (v := ?v26) rfl (by kernel_rfl) (by kernel_rfl) (by kernel_rfl) (by kernel_rfl) (fun _ _ _ h => h) (Or.inl ⟨by rfl, ?hy26⟩) (by assumption) ?_
  case hy26 => intro w hSw; obtain ⟨u4, u5⟩ := hSw; have e0 := u4.cell 0; have e1 := u4.cell 1; have e2 := u4.cell 2; have e3 := u4.cell 3; have e4 := u4.cell 4; have i0 := u5.cell 0; have i1 := u5.cell 1; have i2 := u5.cell 2; have i3 := u5.cell 3; simp at e0 e1 e2 e3 e4 i0 i1 i2 i3; go_simp; try with_reducible rfl
  simp only [Act.put, List.getElem_toArray, List.getElem_cons_zero, List.getElem_cons_succ, List.setIfInBounds_toArray, List.set_cons_zero, List.set_cons_succ]
  refine wpAnyN_one (i := 2) (by kernel_rfl) rfl (fun K hK => ?_)
  simp only [List.getElem_toArray, List.getElem_cons_zero, List.getElem_cons_succ]
  go_simp
  refine hK _ _ (fun _ => ⟨by refine Blk.drew1 ?_; repeat (first | (with_reducible exact x4) | (with_reducible refine Blk.far ?_ ?_ _); rotate_left; focus (first | (simp; done) | (simp; omega))), by refine Blk.drew1 ?_; repeat (first | (with_reducible exact x5) | (with_reducible refine Blk.far ?_ ?_ _); rotate_left; focus (first | (simp; done) | (simp; omega)))⟩) ?_
  refine wpAnyN_one (i := 3) (by kernel_rfl) rfl (fun K hK => ?_)
  simp only [List.getElem_toArray, List.getElem_cons_zero, List.getElem_cons_succ]
  go_simp
  refine hK _ _ (fun h => absurd h (by decide)) ?_
  refine wpAnyN_done (by kernel_rfl) ?_ _
  go_wp2_with fail
  refine bodyPost_ret (v := .tuple #[smV A0 A1 c0 c1 s, .agg #[.int .i64 0, .string ⟨#[]⟩, .bool false, .int .i64 0]]) (by simp only [results, Try.results27]; go_simp) rfl ⟨⟨_, rfl, .inr ⟨rfl, rfl⟩⟩, ?_⟩
  refine bDrewN ?_ 1
  repeat (first | (with_reducible exact HBx.out) | ((with_reducible refine Below.setCell ?_ ?_ _); rotate_left; focus (first | (simp; done) | (simp; omega))))

theorem want_any (v : Value) (s : Sm) (x : A) (w : World) (hs : SmAt w w.heap.size v s) :
    Calls Try.prog 27 #[v, x.v] w (RetA v s (actV s x) w) := by
  obtain ⟨k, id, n, eof, name, al⟩ := x
  unfold actV
  dsimp only [A.v]
  by_cases k0 : k = 0
  · subst k0
    simpa using want0 v s id n eof name al w hs
  rw [if_neg k0]
  by_cases k1 : k = 1
  · subst k1
    simpa using want1 v s id n eof name al w hs
  rw [if_neg k1]
  by_cases k2 : k = 2
  · subst k2
    simpa using want2 v s id n eof name al w hs
  rw [if_neg k2]
  by_cases k3 : k = 3
  · subst k3
    simpa using want3 v s id n eof name al w hs
  rw [if_neg k3]
  by_cases k4 : k = 4
  · subst k4
    simpa using want4 v s id n eof name al w hs
  rw [if_neg k4]
  by_cases k5 : k = 5
  · subst k5
    simpa using want5 v s id n eof name al w hs
  rw [if_neg k5]
  by_cases k6 : k = 6
  · subst k6
    simpa using want6 v s id n eof name al w hs
  rw [if_neg k6]
  by_cases k7 : k = 7
  · subst k7
    simpa using want7 v s id n eof name al w hs
  rw [if_neg k7]
  by_cases k8 : k = 8
  · subst k8
    simpa using want8 v s id n eof name al w hs
  rw [if_neg k8]
  by_cases k9 : k = 9
  · subst k9
    simpa using want9 v s id n eof name al w hs
  rw [if_neg k9]
  by_cases k10 : k = 10
  · subst k10
    simpa using want10 v s id n eof name al w hs
  rw [if_neg k10]
  exact wantN v s k id n eof name al w hs k0 k1 k2 k3 k4 k5 k6 k7 k8 k9 k10
end Go.Proofs.Ytklpghpfdeojeaa
