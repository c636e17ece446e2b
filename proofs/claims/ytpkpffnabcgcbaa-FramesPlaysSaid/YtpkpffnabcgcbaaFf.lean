/-
  What a call on stacks leaves (RetP); the walk of Cut.
-/
import Derived.Test.YtpkpffnabcgcbaaFe
namespace Go.Proofs.Ytpkpffnabcgcbaa
open Go.RowKit

/-- the blocks of stacks -/
def foot (p : Nat) (ve vc : Value) (ys : List Value) (cs : List (Value × Value)) : List Nat := p :: blks (ve :: vc :: ys ++ cs.map (·.1) ++ cs.map (·.2))
/-- what lies outside some blocks stays -/
structure Kept (F : List Nat) (w w' : World) : Prop where
  os : w'.os = w.os
  tape : w'.tape = w.tape
  output : w'.output = w.output
  size : w.heap.size ≤ w'.heap.size
  block : ∀ g, g < w.heap.size → g ∉ F → w'.heap[g]? = w.heap[g]?
theorem Kept.refl (F : List Nat) (w : World) : Kept F w w := ⟨rfl, rfl, rfl, Nat.le_refl _, fun _ _ _ => rfl⟩
theorem Kept.upd {F : List Nat} {p : Nat} {w w' : World} (h : Upd p w w') (hp : p ∈ F) : Kept F w w' := ⟨h.os, h.tape, h.output, by rw [h.size]; exact Nat.le_refl _, fun g _ hg => h.block g fun e => hg (e ▸ hp)⟩
theorem Kept.below {F : List Nat} {w w' : World} (h : Below w.heap.size w w') : Kept F w w' := ⟨h.os, h.tape, h.output, h.size, fun g hg _ => h.block g hg⟩
theorem Kept.trans {F : List Nat} {w w1 w2 : World} (h : Kept F w w1) (k : Kept F w1 w2) : Kept F w w2 :=
  ⟨k.os.trans h.os, k.tape.trans h.tape, k.output.trans h.output, Nat.le_trans h.size k.size, fun g hg hf => (k.block g (Nat.lt_of_lt_of_le hg h.size) hf).trans (h.block g hg hf)⟩
/-- stacks behind a pointer, whose blocks are among F or lie at b and beyond -/
def StF (w : World) (B p : Nat) (F : List Nat) (b : Nat) (s : St) : Prop := ∃ ve vc ys cs, Stk w B p s ve vc ys cs ∧ ∀ g ∈ foot p ve vc ys cs, g ∈ F ∨ b ≤ g
def RetP (B p : Nat) (F : List Nat) (v : Value) (s : St) (w : World) (e : Ending) (w' : World) : Prop := e = .returned v ∧ StF w' B p F w.heap.size s ∧ Kept F w w'
theorem foot_sub {p : Nat} {A A' : Option Addr} {n m k j c c' : Nat} {ys : List Value} {cs : List (Value × Value)} (q r : Nat) : ∀ g ∈ foot p (.slice A m c) (.slice A' k c') (ys.take q) (cs.take r), g ∈ foot p (.slice A n c) (.slice A' j c') ys cs := by
  intro g hg
  unfold foot at hg ⊢
  rcases List.mem_cons.1 hg with rfl | hg
  · exact List.mem_cons_self
  · refine List.mem_cons_of_mem _ ?_
    unfold blks at hg ⊢
    obtain ⟨v, hv, e⟩ := List.mem_filterMap.1 hg
    refine List.mem_filterMap.2 ?_
    rcases List.mem_append.1 hv with hv | hv
    · rcases List.mem_append.1 hv with hv | hv
      · rcases List.mem_cons.1 hv with rfl | hv
        · exact ⟨.slice A n c, by simp, by cases A <;> exact e⟩
        · rcases List.mem_cons.1 hv with rfl | hv
          · exact ⟨.slice A' j c', by simp, by cases A' <;> exact e⟩
          · exact ⟨v, by simp [List.mem_of_mem_take hv], e⟩
      · obtain ⟨x, hx, rfl⟩ := List.mem_map.1 hv
        exact ⟨x.1, List.mem_append_left _ (List.mem_append_right _ (List.mem_map.2 ⟨x, List.mem_of_mem_take hx, rfl⟩)), e⟩
    · obtain ⟨x, hx, rfl⟩ := List.mem_map.1 hv
      exact ⟨x.2, List.mem_append_right _ (List.mem_map.2 ⟨x, List.mem_of_mem_take hx, rfl⟩), e⟩
/-- the state behind drop -/
def dropV (s : St) : St := ⟨s.envs.take (keepN s), s.e, s.chs⟩
theorem keepN_le (s : St) : keepN s ≤ s.envs.length := by unfold keepN; omega
def cutV (s : St) (n : Int) : Except Int St := if n < 0 ∨ (s.chs.length : Int) < n then .error 1 else .ok (dropV ⟨s.envs, s.e, s.chs.take n.toNat⟩)
def stOf (s : St) : Except Int St → St
  | .ok t => t
  | .error _ => s
def errOf {α : Type} : Except Int α → Int
  | .ok _ => 0
  | .error e => e

set_option maxHeartbeats 2000000 in
theorem cut_any {B p : Nat} {s : St} {ve vc : Value} {ys : List Value} {cs : List (Value × Value)} (n : Int) (w : World) (h : Stk w B p s ve vc ys cs) (hn : s.envs.length ≤ 1000000000000) (hnc : s.chs.length ≤ 1000000000000) :
    Calls Try.prog 13 #[.pointer (some ⟨p, 0, none⟩), .int .i64 n] w (RetP B p (foot p ve vc ys cs) (.int .i64 (errOf (cutV s n))) (stOf s (cutV s n)) w) := by
  obtain ⟨A, c, rfl, hcap⟩ := own_form h.envs
  obtain ⟨A', c', rfl, hcap'⟩ := own_form h.chs
  have hp := h.box.lt
  obtain ⟨c0, c1, c2⟩ := h.cells
  have H := Lib.hid h
  clear h hcap
  have hcc := hcap'.1
  clear hcap'
  by_cases h0 : n < 0
  · have hv : cutV s n = .error 1 := by unfold cutV; rw [if_pos (.inl h0)]
    rw [hv]
    go_enter Try.func13, Try.ntmps13
    go_wp2_with fail
    go_ret
    exact ⟨rfl, ⟨_, _, _, _, H.out, fun g hg => .inl hg⟩, Kept.refl _ _⟩
  · by_cases h1 : (s.chs.length : Int) < n
    · have hv : cutV s n = .error 1 := by unfold cutV; rw [if_pos (.inr h1)]
      rw [hv]
      go_enter Try.func13, Try.ntmps13
      go_wp2_with fail
      go_ret
      exact ⟨rfl, ⟨_, _, _, _, H.out, fun g hg => .inl hg⟩, Kept.refl _ _⟩
    · obtain ⟨k, rfl⟩ : ∃ k : Nat, n = (k : Int) := ⟨n.toNat, by omega⟩
      have hk : k ≤ s.chs.length := by omega
      have hv : cutV s (k : Int) = .ok (dropV ⟨s.envs, s.e, s.chs.take k⟩) := by
        unfold cutV
        rw [if_neg (by omega), Int.toNat_natCast]
      rw [hv]
      have f2 := H.out.box.frozen 2
      have hb := H.out.box.set_ 2 (.slice A' k c')
      have hu := (Upd.refl p w).set 2 (.slice A' k c')
      obtain ⟨W, HW⟩ : ∃ X, Hid (X = w.setCell ⟨p, 2, none⟩ (.slice A' k c')) := ⟨_, rfl⟩
      rw [← HW.out] at hb hu
      have hs1 := H.out.boxed hu rfl rfl (Nat.le_refl _) hk (e := s.e) (by simpa using hb)
      have hy : ys.take s.envs.length = ys := by rw [← H.out.ylen, List.take_length]
      rw [List.take_length, hy] at hs1
      have hkl : (s.chs.take k).length = k := by rw [List.length_take]; omega
      have hd := drop_any W hs1 hn (by show (s.chs.take k).length ≤ _; omega)
      have HD := Lib.hid hd
      have HU := Lib.hid hu
      have HS1 := Lib.hid hs1
      clear hd hu hs1 hb
      go_enter Try.func13, Try.ntmps13
      go_upto_region 4 with fail
      rw [← HW.out]
      go_wp2_with fail
      refine HD.out.mono ?_
      rintro e w2 ⟨rfl, hu2, hb2⟩
      have hs2 := HS1.out.boxed hu2 rfl (by show _ = Value.slice A' (s.chs.take k).length c'; rw [hkl]) (keepN_le _) (Nat.le_refl _) (by rw [hkl]; exact hb2)
      have HS2 := Lib.hid hs2
      have HU2 := Lib.hid hu2
      clear hs2 hu2 hb2
      go_wp2_with fail
      go_ret
      have h2 := HS2.out
      rw [List.take_length, List.take_take] at h2
      exact ⟨rfl, ⟨_, _, _, _, h2, fun g hg => .inl (foot_sub _ _ g hg)⟩, (Kept.upd HU.out List.mem_cons_self).trans (Kept.upd HU2.out List.mem_cons_self)⟩
end Go.Proofs.Ytpkpffnabcgcbaa
