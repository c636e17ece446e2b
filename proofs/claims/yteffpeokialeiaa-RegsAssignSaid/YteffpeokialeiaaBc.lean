/-
  Walks: regs.lasts.
-/
import Derived.Test.YteffpeokialeiaaBb
import Derived.Test.YteffpeokialeiaaAt
import Derived.Outline
namespace Go.Proofs.Yteffpeokialeiaa
open Go.RowKit

/-- where the walk of lasts stands -/
def LaAt (w0 wr : World) (g : Nat) (f : Int → Option Value) : Prop := MapI wr g f ∧ w0.heap.size ≤ g ∧ Below w0.heap.size w0 wr
theorem LaAt.later {w0 wr w2 : World} {g : Nat} {f : Int → Option Value} (h : LaAt w0 wr g f) (hb : Below wr.heap.size wr w2) : LaAt w0 w2 g f := ⟨h.1.next hb, h.2.1, bNext h.2.2 hb⟩
theorem LaAt.alloc {w0 wr : World} {g : Nat} {f : Int → Option Value} (h : LaAt w0 wr g f) (o : Obj) : LaAt w0 (wr.alloc o) g f := h.later (bAlloc _ _)
theorem LaAt.grown {w0 wr w2 : World} {g B : Nat} {f : Int → Option Value} {row : Option Nat} (h : LaAt w0 wr g f) (hg : wr.grownBy w2 row) (hr : ∀ k, row = some k → B ≤ k) (hB : g < B) : LaAt w0 w2 g f :=
  ⟨h.1.grown hg (fun e => by have := hr _ e; omega), h.2.1, h.2.2.grown hg h.2.2.size (fun k e => by have := hr k e; have := h.2.1; omega)⟩
def RetLast (w : World) (f : Int → Option Value) (e : Ending) (w' : World) : Prop := ∃ g, e = .returned (.map (some g)) ∧ LaAt w w' g f

set_option maxRecDepth 100000 in
set_option maxHeartbeats 1000000 in
theorem lasts_any (A : Option Addr) (n c : Nat) (l : List In) (base : Int) (w : World) (ha : InsAt w w.heap.size A n l) (hn : n ≤ 60) :
    Calls Try.prog 38 #[.slice A n c, .int .i64 base] w (RetLast w (lastsF l base)) := by
  have HA := Lib.hid ha
  clear ha
  have hmm := @run_makeMap Try.prog
  go_enter Try.func38, Try.ntmps38
  go_wp2_with fail
  go_loopw [13] (fun i wr => ∃ (k : Nat) (f : Int → Option Value), i = .int .i64 k ∧ k ≤ n ∧ Hid (LaAt w wr w.heap.size f) ∧ Hid (lastFrom base (l.drop k) k f = lastsF l base)) (fun i _ => n - (intOf i).toNat)
  case atStart => exact ⟨0, fun _ => none, rfl, Nat.zero_le _, Lib.hid ⟨MapI.new w, Nat.le_refl _, bAlloc _ _⟩, Lib.hid rfl⟩
  case round =>
    obtain ⟨k, f, rfl, hk, HR, HD⟩ := hrel
    by_cases hlt : k < n
    · obtain ⟨b, off, x, rfl, hbb, hx, hcs⟩ := HA.out.at hlt
      obtain ⟨q0, q1, q2, q3, q4, q5⟩ := hcs.below hbb HR.out.2.2
      have hdr := last_drop base l f k x hx
      have HX := Lib.hid (And.intro hx hdr)
      have hbz : b < wr.heap.size := by have := HR.out.2.2.size; omega
      clear hx hdr hcs
      go_upto_region 5 with (fail)
      have HB1 := Lib.hid (BoxI.new wr x)
      have HV := Lib.hid (HR.out.alloc (.cells #[.int .i64 x.op, .int .i64 x.r, .int .i64 x.a, .int .i64 x.n, .string x.nm, .int .i64 x.ar] 23))
      have hz1 : w.heap.size < (wr.alloc (.cells #[.int .i64 x.op, .int .i64 x.r, .int .i64 x.a, .int .i64 x.n, .string x.nm, .int .i64 x.ar] 23)).heap.size := by have := HR.out.2.2.size; simp; omega
      generalize hW1 : wr.alloc (.cells #[.int .i64 x.op, .int .i64 x.r, .int .i64 x.a, .int .i64 x.n, .string x.nm, .int .i64 x.ar] 23) = W0 at HB1 HV hz1 ⊢
      clear hW1
      obtain ⟨W1, HW1⟩ : ∃ X, Hid (X = W0.drew) := ⟨_, Lib.hid rfl⟩
      have hd0 : Below W0.heap.size W0 W1 := by rw [HW1.out]; exact bDrew W0
      replace HB1 := Lib.hid (HB1.out.next hd0)
      replace HV := Lib.hid (HV.out.later hd0)
      replace hz1 : w.heap.size < W1.heap.size := Nat.lt_of_lt_of_le hz1 hd0.size
      have hB0 := Lib.hid HB1.out.lt
      clear hd0
      have hlr := rd_len x
      have hlw := wr_len x
      refine wp_region_N (fun w' => BoxI w' wr.heap.size x) (fun _ => true) (by kernel_rfl) ?_
      rw [← HW1.out]
      clear q0 q1 q2 q3 q4 q5 HW1
      have hS0 : (fun w' => BoxI w' wr.heap.size x) W1 := HB1.out
      refine wpAnyN_take (i := 0) (v := ?v1) rfl (by kernel_rfl) (by kernel_rfl) (by kernel_rfl) (by kernel_rfl) (fun _ _ _ h => h) (Or.inl ⟨by rfl, ?hy1⟩) (by assumption) ?_
      case hy1 => intro w hSw; obtain ⟨i0, i1, i2, i3, i4, i5⟩ := BoxI.cells hSw; go_simp; try with_reducible rfl
      simp only [Act.put, List.getElem_toArray, List.getElem_cons_zero, List.setIfInBounds_toArray, List.set_cons_zero, List.set_cons_succ]
      refine wpAnyN_take (i := 2) (v := ?v2) rfl (by kernel_rfl) (by kernel_rfl) (by kernel_rfl) (by kernel_rfl) (fun _ _ _ h => h) (Or.inl ⟨by rfl, ?hy2⟩) (by assumption) ?_
      case hy2 => intro w hSw; obtain ⟨i0, i1, i2, i3, i4, i5⟩ := BoxI.cells hSw; go_simp; try with_reducible rfl
      simp only [Act.put, List.getElem_toArray, List.getElem_cons_zero, List.getElem_cons_succ, List.setIfInBounds_toArray, List.set_cons_zero, List.set_cons_succ]
      refine wpAnyN_take (i := 6) (v := ?v3) rfl (by kernel_rfl) (by kernel_rfl) (by kernel_rfl) (by kernel_rfl) (fun _ _ _ h => h) (Or.inl ⟨by rfl, ?hy3⟩) (by assumption) ?_
      case hy3 => intro w hSw; obtain ⟨i0, i1, i2, i3, i4, i5⟩ := BoxI.cells hSw; go_simp; try with_reducible rfl
      simp only [Act.put, List.getElem_toArray, List.getElem_cons_zero, List.getElem_cons_succ, List.setIfInBounds_toArray, List.set_cons_zero, List.set_cons_succ]
      refine wpAnyN_one (i := 1) (by kernel_rfl) rfl (fun K hK => ?_)
      simp only [List.getElem_toArray, List.getElem_cons_zero, List.getElem_cons_succ]
      go_simp
      refine (reads_any x _).mono ?_
      rintro e w2 ⟨v2, rfl, ho2⟩
      have hS2 : (fun w' => BoxI w' wr.heap.size x) w2 := hS0.next ho2.2
      have HO2 := Lib.hid ho2.1
      have HV2 := Lib.hid (HV.out.later ho2.2)
      have hz2 := ho2.2.size
      clear ho2
      refine hK _ _ (fun _ => hS2) ?_
      (try simp only [Act.put, List.setIfInBounds_toArray, List.set_cons_zero, List.set_cons_succ])
      refine wpAnyN_one (i := 3) (by kernel_rfl) rfl (fun K hK => ?_)
      simp only [List.getElem_toArray, List.getElem_cons_zero, List.getElem_cons_succ]
      go_simp
      refine (writes_any x _).mono ?_
      rintro e w3 ⟨v3, rfl, ho3⟩
      obtain ⟨A3, c3, rfl, hcap3⟩ := own_form ho3.1
      have HI3 := Lib.hid (own_ints ho3.1 (by have := wr_len x; omega))
      have HC3 := Lib.hid hcap3.2
      have HO3 := Lib.hid (own_next HO2.out ho3.2)
      have HV3 := Lib.hid (HV2.out.later ho3.2)
      have hS3 : (fun w' => BoxI w' wr.heap.size x) w3 := hS2.next ho3.2
      have hz3 := ho3.2.size
      clear ho3 hcap3
      refine hK _ _ (fun _ => hS3) ?_
      (try simp only [Act.put, List.setIfInBounds_toArray, List.set_cons_zero, List.set_cons_succ])
      refine wpAnyN_one (i := 4) (by kernel_rfl) rfl (fun K hK => ?_)
      simp only [List.getElem_toArray, List.getElem_cons_zero, List.getElem_cons_succ]
      rw [if_pos (by rfl)]
      refine wp_append_ints _ _ rfl W1.heap.size v2 (rdOf x).length (rdOf x) rfl HO3.out A3 (wrOf x).length c3 w3.heap.size (wrOf x) rfl HC3.out HI3.out (by omega) (by omega) ?_
      intro v4 w4 ho4 hg4
      have HV4 := Lib.hid (HV3.out.grown hg4 (fun g e => (own_lt HO3.out e).1) hz1)
      obtain ⟨A4, c4, rfl, _⟩ := own_form ho4
      have HO4 := Lib.hid ho4
      have hz4 := hg4.size
      have hS4 : (fun w' => BoxI w' wr.heap.size x) w4 := hS3.grown hg4 (fun e => by have := (own_lt HO3.out e).1; have := hB0.out; omega)
      clear ho4 hg4
      refine hK _ _ (fun _ => hS4) ?_
      (try simp only [Act.put, List.setIfInBounds_toArray, List.set_cons_zero, List.set_cons_succ])
      refine wpAnyN_one (i := 5) (by kernel_rfl) rfl (fun K hK => ?_)
      simp only [List.getElem_toArray, List.getElem_cons_zero, List.getElem_cons_succ]
      go_simp
      refine hK _ _ (fun _ => hS4) ?_
      (try simp only [Act.put, List.setIfInBounds_toArray, List.set_cons_zero, List.set_cons_succ])
      refine wpAnyN_done (by kernel_rfl) ?_ _
      have hlen : (rdOf x ++ wrOf x).length = (rdOf x).length + (wrOf x).length := List.length_append
      have HLN := Lib.hid hlen
      clear hlen hS0 hS2 hS3 hS4
      go_wp2_with fail
      have HLP := Lib.hid (show w.heap.size < W1.heap.size from hz1)
      go_loopw [24] (fun i wj => ∃ j : Nat, i = .int .i64 j ∧ j ≤ (rdOf x).length + (wrOf x).length ∧ Hid (LaAt w wj w.heap.size (lastG base f k ((rdOf x ++ wrOf x).take j))) ∧ Hid (wj.ownsRow W1.heap.size 3 1 (.slice A4 ((rdOf x).length + (wrOf x).length) c4) ((rdOf x).length + (wrOf x).length) (iCs (rdOf x ++ wrOf x)))) (fun i _ => (rdOf x).length + (wrOf x).length - (intOf i).toNat)
      case atStart => exact ⟨0, rfl, Nat.zero_le _, Lib.hid ⟨HV4.out.1.congr fun y => by rw [List.take_zero, lastG_nil], HV4.out.2⟩, HO4⟩
      case round =>
        obtain ⟨j, rfl, hj, HJ, HO⟩ := hrel
        by_cases hjl : j < (rdOf x).length + (wrOf x).length
        · obtain ⟨b4, off4, z, rfl, hb4, hz, hcz⟩ := (own_ints HO.out (by omega)).at hjl
          have HZ := Lib.hid hz
          clear hz
          by_cases hbz : base < z
          · obtain ⟨w5, hrun, hM, hg5, hz5⟩ := HJ.out.1.update under59 z (.int .i64 k)
            have HJ5 : Hid (LaAt w w5 w.heap.size (lastG base f k ((rdOf x ++ wrOf x).take (j + 1)))) := Lib.hid ⟨hM.congr fun y => by
              rw [lastG_snoc HZ.out]
              by_cases e : y = z
              · rw [if_pos e, if_pos ⟨e, hbz⟩]
              · rw [if_neg e, if_neg (fun h => e h.1)], Nat.le_refl _, HJ.out.2.2.grown hg5 HJ.out.2.2.size (fun g e => by injection e with e; omega)⟩
            have HO5 := Lib.hid (own_stay HO.out fun g e => hg5.block g (own_lt HO.out e).2 (by have := (own_lt HO.out e).1; have := HLP.out; intro e2; injection e2 with e2; omega))
            clear hM hg5 hz5
            go_wp2_with fail
            exact ⟨⟨j + 1, by go_num, by omega, HJ5, HO5⟩, by simp [intOf]; omega⟩
          · have hd3 : decide (base < z) = false := by simpa using hbz
            have HJ5 : Hid (LaAt w wr w.heap.size (lastG base f k ((rdOf x ++ wrOf x).take (j + 1)))) := Lib.hid ⟨HJ.out.1.congr fun y => by
              rw [lastG_snoc HZ.out, if_neg (fun h => hbz h.2)], HJ.out.2⟩
            clear hbz
            go_wp2_with fail
            exact ⟨⟨j + 1, by go_num, by omega, HJ5, HO⟩, by simp [intOf]; omega⟩
        · have HJ5 : Hid (LaAt w wr w.heap.size (lastG base f k (rdOf x ++ wrOf x))) := by
            have := HJ.out
            rw [List.take_of_length_le (by rw [HLN.out]; omega)] at this
            exact Lib.hid this
          go_wp2_with fail
          exact ⟨⟨k + 1, _, by go_num, by omega, HJ5, Lib.hid (by rw [← HX.out.2]; exact HD.out)⟩, by simp [intOf]; omega⟩
    · have HE : Hid (f = lastsF l base) := Lib.hid (by rw [← HD.out, List.drop_of_length_le (by have := HA.out.len; omega)]; rfl)
      go_wp2_with fail
      go_ret
      exact ⟨_, rfl, by rw [← HE.out]; exact HR.out⟩
end Go.Proofs.Yteffpeokialeiaa
