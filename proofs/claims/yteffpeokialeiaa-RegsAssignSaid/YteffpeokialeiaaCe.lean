/-
  Walks: moved; RegsShift.
-/
import Derived.Test.YteffpeokialeiaaCd
import Derived.Outline
namespace Go.Proofs.Yteffpeokialeiaa
open Go.RowKit

theorem row_news2 (w : World) (o : Obj) (y : In) : ∀ j u, (aCs [y])[j]? = some u → ((w.alloc o).alloc (.cells #[.int .i64 y.op, .int .i64 y.r, .int .i64 y.a, .int .i64 y.n, .string y.nm, .int .i64 y.ar] 23)).cell? ((⟨w.heap.size + 1, 0, none⟩ : Addr).add j) = some u := fun j u hu => by
  have h := row_news (w.alloc o) y j u hu
  rw [show (w.alloc o).heap.size = w.heap.size + 1 by simp] at h
  exact h
theorem moved_snoc {l : List In} {k : Nat} {x : In} (h : l[k]? = some x) (base by_ : Int) : movedP (l.take (k + 1)) base by_ = movedP (l.take k) base by_ ++ [mvI base by_ x] := by
  unfold movedP; rw [List.take_add_one, h]; simp
set_option maxRecDepth 100000 in
set_option maxHeartbeats 1000000 in
theorem moved_any (A : Option Addr) (n c : Nat) (l : List In) (base by_ : Int) (w : World) (ha : InsAt w w.heap.size A n l) (hn : n ≤ 60) (hb0 : 0 ≤ base) (hy0 : 0 ≤ by_) (hy1 : by_ ≤ 4096) (hl : ∀ x ∈ l, x.r ≤ 1000000 ∧ x.a ≤ 1000000) :
    Calls Try.prog 26 #[.slice A n c, .int .i64 base, .int .i64 by_] w fun e w' => ∃ v, e = .returned v ∧ OwnA w w' v (movedP l base by_) := by
  have HA := Lib.hid ha
  have HL := Lib.hid hl
  obtain ⟨j23, hj1, hj2, hj3, hj4⟩ := info_parts info23
  have HJ3 := Lib.hid hj3
  clear ha hl hj3
  go_enter Try.func26, Try.ntmps26
  go_wp2_with fail
  go_loopw [7, 8] (fun vo i wr => ∃ k : Nat, i = .int .i64 k ∧ k ≤ n ∧ Hid (wr.ownsRow w.heap.size 23 6 vo k (aCs (movedP (l.take k) base by_)) ∧ Below w.heap.size w wr)) (fun _ i _ => n - (intOf i).toNat)
  case atStart => exact ⟨0, rfl, Nat.zero_le _, Lib.hid ⟨⟨rfl, .inl ⟨rfl, rfl⟩⟩, Below.refl _ _⟩⟩
  case round =>
    obtain ⟨k, rfl, hk, HO⟩ := hrel
    by_cases hlt : k < n
    · obtain ⟨b, off, x, rfl, hbb, hx, hcs⟩ := HA.out.at hlt
      obtain ⟨q0, q1, q2, q3, q4, q5⟩ := hcs.below hbb HO.out.2
      obtain ⟨hlr, hla⟩ := HL.out x (List.mem_of_getElem? hx)
      have HX := Lib.hid (moved_snoc hx base by_)
      have hbz : b < wr.heap.size := by have := HO.out.2.size; omega
      clear hcs
      rcases (by by_cases h1 : base < x.r <;> by_cases h2 : base < x.a <;> simp [h1, h2] : (base < x.r ∧ base < x.a) ∨ (base < x.r ∧ ¬ base < x.a) ∨ (¬ base < x.r ∧ base < x.a) ∨ (¬ base < x.r ∧ ¬ base < x.a)) with ⟨h1, h2⟩ | ⟨h1, h2⟩ | ⟨h1, h2⟩ | ⟨h1, h2⟩
      · -- case 1
        have hz0 : 0 < 1 := by decide
        have HY : Hid (mvI base by_ x = ⟨x.op, x.r + by_, x.a + by_, x.n, x.nm, x.ar⟩) := Lib.hid (by unfold mvI sg; rw [if_pos h1, if_pos h2])
        clear hx
        go_wp2_with (at_builtin; refine wpList_append_own_at _ rfl (.tmp 38) (.tmp 40) 27 rfl w.heap.size 23 j23 (.agg #[.int .i64 0, .int .i64 0, .int .i64 0, .int .i64 0, .string ⟨#[]⟩, .int .i64 0]) 6 56 Try.underlying27 hj1 hj2 HJ3.out hj4 rfl (by decide) _ _ _ rfl ((HO.out.1.alloc _).alloc _) ⟨wr.heap.size + 1, 0, none⟩ 1 1 (aCs [⟨x.op, x.r + by_, x.a + by_, x.n, x.nm, x.ar⟩]) rfl rfl ?a1 ?a2 ?a3 ?a4 ?a5 ?_)
        case a1 => first | exact row_news2 _ _ _ | exact fun _ _ h => h
        case a2 => exact aCs_one _
        case a3 => unfold maxLen; omega
        case a4 => omega
        case a5 => have := HO.out.2.size; simp; omega
        intro vn w8 ho8 hg8 _ _
        have HO8 : Hid (w8.ownsRow w.heap.size 23 6 vn (k + 1) (aCs (movedP (l.take (k + 1)) base by_)) ∧ Below w.heap.size w w8) := Lib.hid ⟨by rw [HX.out, HY.out, aCs_app]; exact ho8,
          ((HO.out.2.alloc HO.out.2.size _).alloc (by have := HO.out.2.size; simp; omega) _).grown hg8 (by have := HO.out.2.size; simp; omega) (fun g e => (own_lt HO.out.1 e).1)⟩
        clear ho8 hg8
        go_wp2_with fail
        exact ⟨⟨k + 1, by go_num, by omega, HO8⟩, by simp [intOf]; omega⟩
      · -- case 2
        have hd2 : decide (base < x.a) = false := by simpa using h2
        have HY : Hid (mvI base by_ x = ⟨x.op, x.r + by_, x.a, x.n, x.nm, x.ar⟩) := Lib.hid (by unfold mvI sg; rw [if_pos h1, if_neg h2])
        clear hx
        go_wp2_with (at_builtin; refine wpList_append_own_at _ rfl (.tmp 38) (.tmp 40) 27 rfl w.heap.size 23 j23 (.agg #[.int .i64 0, .int .i64 0, .int .i64 0, .int .i64 0, .string ⟨#[]⟩, .int .i64 0]) 6 56 Try.underlying27 hj1 hj2 HJ3.out hj4 rfl (by decide) _ _ _ rfl ((HO.out.1.alloc _).alloc _) ⟨wr.heap.size + 1, 0, none⟩ 1 1 (aCs [⟨x.op, x.r + by_, x.a, x.n, x.nm, x.ar⟩]) rfl rfl ?b1 ?b2 ?b3 ?b4 ?b5 ?_)
        case b1 => first | exact row_news2 _ _ _ | exact fun _ _ h => h
        case b2 => exact aCs_one _
        case b3 => unfold maxLen; omega
        case b4 => omega
        case b5 => have := HO.out.2.size; simp; omega
        intro vn w8 ho8 hg8 _ _
        have HO8 : Hid (w8.ownsRow w.heap.size 23 6 vn (k + 1) (aCs (movedP (l.take (k + 1)) base by_)) ∧ Below w.heap.size w w8) := Lib.hid ⟨by rw [HX.out, HY.out, aCs_app]; exact ho8,
          ((HO.out.2.alloc HO.out.2.size _).alloc (by have := HO.out.2.size; simp; omega) _).grown hg8 (by have := HO.out.2.size; simp; omega) (fun g e => (own_lt HO.out.1 e).1)⟩
        clear ho8 hg8
        go_wp2_with fail
        exact ⟨⟨k + 1, by go_num, by omega, HO8⟩, by simp [intOf]; omega⟩
      · -- case 3
        have hd1 : decide (base < x.r) = false := by simpa using h1
        have HY : Hid (mvI base by_ x = ⟨x.op, x.r, x.a + by_, x.n, x.nm, x.ar⟩) := Lib.hid (by unfold mvI sg; rw [if_neg h1, if_pos h2])
        clear hx
        go_wp2_with (at_builtin; refine wpList_append_own_at _ rfl (.tmp 38) (.tmp 40) 27 rfl w.heap.size 23 j23 (.agg #[.int .i64 0, .int .i64 0, .int .i64 0, .int .i64 0, .string ⟨#[]⟩, .int .i64 0]) 6 56 Try.underlying27 hj1 hj2 HJ3.out hj4 rfl (by decide) _ _ _ rfl ((HO.out.1.alloc _).alloc _) ⟨wr.heap.size + 1, 0, none⟩ 1 1 (aCs [⟨x.op, x.r, x.a + by_, x.n, x.nm, x.ar⟩]) rfl rfl ?c1 ?c2 ?c3 ?c4 ?c5 ?_)
        case c1 => first | exact row_news2 _ _ _ | exact fun _ _ h => h
        case c2 => exact aCs_one _
        case c3 => unfold maxLen; omega
        case c4 => omega
        case c5 => have := HO.out.2.size; simp; omega
        intro vn w8 ho8 hg8 _ _
        have HO8 : Hid (w8.ownsRow w.heap.size 23 6 vn (k + 1) (aCs (movedP (l.take (k + 1)) base by_)) ∧ Below w.heap.size w w8) := Lib.hid ⟨by rw [HX.out, HY.out, aCs_app]; exact ho8,
          ((HO.out.2.alloc HO.out.2.size _).alloc (by have := HO.out.2.size; simp; omega) _).grown hg8 (by have := HO.out.2.size; simp; omega) (fun g e => (own_lt HO.out.1 e).1)⟩
        clear ho8 hg8
        go_wp2_with fail
        exact ⟨⟨k + 1, by go_num, by omega, HO8⟩, by simp [intOf]; omega⟩
      · -- case 4
        have hd1 : decide (base < x.r) = false := by simpa using h1
        have hd2 : decide (base < x.a) = false := by simpa using h2
        have HY : Hid (mvI base by_ x = ⟨x.op, x.r, x.a, x.n, x.nm, x.ar⟩) := Lib.hid (by unfold mvI sg; rw [if_neg h1, if_neg h2])
        clear hx
        go_wp2_with (at_builtin; refine wpList_append_own_at _ rfl (.tmp 38) (.tmp 40) 27 rfl w.heap.size 23 j23 (.agg #[.int .i64 0, .int .i64 0, .int .i64 0, .int .i64 0, .string ⟨#[]⟩, .int .i64 0]) 6 56 Try.underlying27 hj1 hj2 HJ3.out hj4 rfl (by decide) _ _ _ rfl ((HO.out.1.alloc _).alloc _) ⟨wr.heap.size + 1, 0, none⟩ 1 1 (aCs [⟨x.op, x.r, x.a, x.n, x.nm, x.ar⟩]) rfl rfl ?d1 ?d2 ?d3 ?d4 ?d5 ?_)
        case d1 => first | exact row_news2 _ _ _ | exact fun _ _ h => h
        case d2 => exact aCs_one _
        case d3 => unfold maxLen; omega
        case d4 => omega
        case d5 => have := HO.out.2.size; simp; omega
        intro vn w8 ho8 hg8 _ _
        have HO8 : Hid (w8.ownsRow w.heap.size 23 6 vn (k + 1) (aCs (movedP (l.take (k + 1)) base by_)) ∧ Below w.heap.size w w8) := Lib.hid ⟨by rw [HX.out, HY.out, aCs_app]; exact ho8,
          ((HO.out.2.alloc HO.out.2.size _).alloc (by have := HO.out.2.size; simp; omega) _).grown hg8 (by have := HO.out.2.size; simp; omega) (fun g e => (own_lt HO.out.1 e).1)⟩
        clear ho8 hg8
        go_wp2_with fail
        exact ⟨⟨k + 1, by go_num, by omega, HO8⟩, by simp [intOf]; omega⟩
    · have HE : Hid (l.take k = l) := Lib.hid (List.take_of_length_le (by have := HA.out.len; omega))
      have HK : Hid ((movedP l base by_).length = k) := Lib.hid (by unfold movedP; rw [List.length_map]; have := HA.out.len; omega)
      go_wp2_with fail
      go_ret
      refine ⟨_, rfl, ?_⟩
      unfold OwnA
      rw [HK.out]
      have := HO.out
      rw [HE.out] at this
      exact this
end Go.Proofs.Yteffpeokialeiaa
