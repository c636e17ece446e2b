/-
  Walks: the reference's registers.
-/
import Derived.Test.YteffpeokialeiaaAh
import Derived.Test.YteffpeokialeiaaAn
import Derived.Outline
import Derived.BigQuiet
import Derived.Deep.QuietTactic
namespace Go.Proofs.Yteffpeokialeiaa
open Go.RowKit

/-- where the walk of the reference's registers stands -/
def RrAt (w0 wr : World) (b1 b2 : Nat) (x : In) (v : Value) (l : List Int) : Prop :=
  BoxI wr b1 x ∧ (wr.ownsRow b2 3 1 v l.length (iCs l) ∧ b2 ≤ wr.heap.size) ∧ Below w0.heap.size w0 wr ∧ (b1 < b2 ∧ w0.heap.size ≤ b1)
theorem RrAt.app {w0 wr w3 : World} {b1 b2 : Nat} {x : In} {v v' : Value} {l : List Int} {z : Int} {o : Obj} (h : RrAt w0 wr b1 b2 x v l)
    (ho : w3.ownsRow b2 3 1 v' (l.length + 1) (iCs l ++ [.int .i64 z])) (hg : (wr.alloc o).grownBy w3 v.ownBlock) : RrAt w0 w3 b1 b2 x v' (l ++ [z]) := by
  obtain ⟨h1, ⟨h2, h2'⟩, h4, h5, h6⟩ := h
  have hz : (wr.alloc o).heap.size = wr.heap.size + 1 := by simp
  refine ⟨(h1.alloc o).grown hg (fun e => by have := own_lt h2 e; omega), ⟨?_, ?_⟩, ?_, h5, h6⟩
  · rw [List.length_append, show iCs (l ++ [z]) = iCs l ++ [.int .i64 z] by simp [iCs]]; exact ho
  · have := hg.size; omega
  · exact (h4.alloc (by omega) o).grown hg (by omega) (fun g e => by have := own_lt h2 e; omega)
theorem RrAt.drewN {w0 wr : World} {b1 b2 : Nat} {x : In} {v : Value} {l : List Int} (h : RrAt w0 wr b1 b2 x v l) (n : Nat) : RrAt w0 (wr.drewN n) b1 b2 x v l :=
  ⟨h.1, h.2.1, bDrewN h.2.2.1 n, h.2.2.2⟩
theorem RrAt.ints {w0 wr : World} {b1 b2 : Nat} {x : In} {v : Value} {l : List Int} (h : RrAt w0 wr b1 b2 x v l) (hn : l.length ≤ 1000000) :
    ∃ A c, v = .slice A l.length c ∧ IntsAt wr wr.heap.size A l.length l := by
  obtain ⟨A, c, rfl, _⟩ := own_form h.2.1.1
  exact ⟨A, c, rfl, own_ints h.2.1.1 hn⟩

set_option maxRecDepth 100000 in
set_option maxHeartbeats 1000000 in
theorem Registers_any (x : In) (s : ByteArray) (w : World) (hs : ∀ c ∈ s.data.toList, c = 114 ∨ c = 97 ∨ c = 112) (hs2 : s.size ≤ 2)
    (hs3 : ∀ k, s.data.toList[k]? = some 97 → ((s.data.toList.take k).foldl (regStep x) []).length ≤ 1) :
    Calls Try.prog 48 #[x.v, .string s] w (RetInts w (regsOf x s.data.toList)) := by
  obtain ⟨i3, hi, hz0, hz1, hz2⟩ := info_parts info3
  have HI := Lib.hid hz1
  have HS3 := Lib.hid hs3
  clear hs3 hz1
  go_enter Try.func48, Try.ntmps48
  go_wp2_with fail
  refine (Formed_any _ _).mono ?_
  rintro e w1 ⟨rfl, hb⟩
  have hx1 := (BoxI.new w x).next hb
  have HB := Lib.hid (bStart hb)
  have hz : w.heap.size < w1.heap.size := by have := hb.size; simp at this; omega
  clear hb
  have HX := Lib.hid hx1
  cases hf : fo x with
  | false =>
    have HF := Lib.hid hf
    clear hf hx1
    go_wp2_with fail
    go_ret
    exact ⟨_, rfl, by
      unfold regsOf; rw [HF.out]
      exact ⟨⟨rfl, .inl ⟨rfl, rfl⟩⟩, HB.out⟩⟩
  | true =>
    have HF := Lib.hid hf
    have har := Lib.hid (fo_ar hf)
    have HZ := Lib.hid hz
    clear hf hx1
    go_wp2_with fail
    clear hz
    go_loopw [5, 6] (fun v i wr => ∃ k : Nat, i = .int .i64 k ∧ k ≤ s.size ∧ Hid (RrAt w wr w.heap.size w1.heap.size x v ((s.data.toList.take k).foldl (regStep x) []))) (fun _ i _ => s.size - (intOf i).toNat)
    case atStart =>
      have hz := HZ.out
      exact ⟨0, rfl, Nat.zero_le _, Lib.hid ⟨HX.out, ⟨⟨rfl, .inl ⟨rfl, rfl⟩⟩, Nat.le_refl _⟩, HB.out, hz, Nat.le_refl _⟩⟩
    case round =>
      obtain ⟨k, rfl, hk, HN⟩ := hrel
      generalize hit : w1.heap.size = b2 at HN ⊢
      have HIT := Lib.hid hit
      clear hit
      have H3 := Lib.hid (HS3.out k)
      generalize hl : (s.data.toList.take k).foldl (regStep x) [] = l at HN H3
      have HL := Lib.hid hl
      have hll : l.length ≤ 8192 := by
        have h1 := reg_len x har.out (s.data.toList.take k) []
        have h2 : (s.data.toList.take k).length ≤ 2 := by simp; omega
        rw [hl] at h1
        simp only [List.length_nil] at h1
        omega
      clear hl
      obtain ⟨p0, p1, p2, p3, p4, p5⟩ := BoxI.cells HN.out.1
      by_cases hlt : k < s.size
      · have hget : s.data.toList[k]? = some (s[k]'hlt) := by simp [hlt]; rfl
        have hmem := hs _ (List.mem_of_getElem? hget)
        have hsn : ∀ (c' : UInt8) m, s[k]'hlt = c' → regStep x l c' = m → (s.data.toList.take (k + 1)).foldl (regStep x) [] = m := fun c' m e1 e2 => by
          rw [List.take_add_one, hget, e1]; simp [HL.out, e2]
        have HSN := Lib.hid hsn
        have HG := Lib.hid hget
        clear hsn hget
        rcases hmem with hc | hc | hc
        · have hn : (s[k]'hlt).toNat = 114 := by rw [hc]; rfl
          have HC := Lib.hid hc
          clear hc
          go_wp2_with (at_builtin; refine wpList_append_own_at _ rfl (.tmp 22) (.tmp 25) 37 rfl b2 3 i3 (.int .i64 0) 1 8 Try.underlying37 hi hz0 HI.out hz2 rfl (by decide) _ _ _ rfl (HN.out.2.1.1.alloc _) ⟨wr.heap.size, 0, none⟩ 1 1 [.int .i64 x.r] rfl rfl ?a1 ?a2 ?a3 ?a4 ?a5 ?_)
          case a1 => exact cell_one_new _ _ _
          case a2 => simp [Value.oneCell']
          case a3 => unfold maxLen; first | omega | (simp; done) | (simp; omega)
          case a4 => first | omega | (simp; done) | (simp; omega)
          case a5 => have := HN.out.2.1.2; simp at this ⊢; omega
          intro v' w3 hown' hg _ _
          have HA : Hid (RrAt w w3 w.heap.size b2 x v' (l ++ [x.r])) := Lib.hid (HN.out.app hown' hg)
          clear hown' hg
          go_wp2_with fail
          exact ⟨⟨k + 1, by go_num, by omega, by rw [HSN.out 114 _ HC.out rfl]; exact HA⟩, by simp [intOf]; omega⟩
        · have hn : (s[k]'hlt).toNat = 97 := by rw [hc]; rfl
          have hl1 := H3.out (by rw [HG.out, hc])
          have HC := Lib.hid hc
          clear hc
          obtain ⟨A, cA, rfl, hI⟩ := HN.out.ints (by omega)
          match l, hl1, HN, HL, HSN, hI with
          | [], _, HN, HL, HSN, hI =>
            clear hI
            simp only [List.length_nil] at *
            go_wp2_with fail
            go_quiet (fail)
            rename_i nq
            replace HN := Lib.hid (HN.out.drewN nq)
            go_wp2_with (at_builtin; refine wpList_append_own_at _ rfl (.tmp 45) (.tmp 48) 37 rfl b2 3 i3 (.int .i64 0) 1 8 Try.underlying37 hi hz0 HI.out hz2 rfl (by decide) _ _ _ rfl (HN.out.2.1.1.alloc _) _ 1 1 [.int .i64 x.a] rfl rfl ?b1 ?b2 ?b3 ?b4 ?b5 ?_)
            case b1 => exact cell_one_new _ _ _
            case b2 => simp [Value.oneCell']
            case b3 => unfold maxLen; first | omega | (simp; done) | (simp; omega)
            case b4 => first | omega | (simp; done) | (simp; omega)
            case b5 => have := HN.out.2.1.2; simp at this ⊢; omega
            intro v' w3 hown' hg _ _
            have HA : Hid (RrAt w w3 w.heap.size b2 x v' ([] ++ [x.a])) := Lib.hid (HN.out.app hown' hg)
            clear hown' hg
            go_wp2_with fail
            exact ⟨⟨k + 1, by go_num, by omega, by rw [HSN.out 97 [x.a] HC.out rfl]; exact HA⟩, by simp [intOf]; omega⟩
          | [z], _, HN, HL, HSN, hI =>
            obtain ⟨b, off, z', rfl, hb, hx, hc⟩ := hI.at (i := 0) (by simp)
            have hzz : z = z' := by simpa using hx
            subst hzz
            clear hx hI
            simp only [List.length_cons, List.length_nil] at *
            rw [Nat.add_zero] at hc
            by_cases hza : z = x.a
            · have HZA := Lib.hid hza
              have hz1' : (z != x.a) = false := by simp [hza]
              clear hza
              go_wp2_with fail
              go_quiet (fail)
              rename_i nq
              replace HN := Lib.hid (HN.out.drewN nq)
              go_wp2_with fail
              exact ⟨⟨k + 1, by go_num, by omega, by rw [HSN.out 97 [z] HC.out (by show (if [z].contains x.a then [z] else [z] ++ [x.a]) = _; rw [HZA.out]; simp)]; exact HN⟩, by simp [intOf]; omega⟩
            · have HZA := Lib.hid hza
              have hz1' : (z != x.a) = true := by simp [hza]
              clear hza
              go_wp2_with fail
              go_quiet (fail)
              rename_i nq
              replace HN := Lib.hid (HN.out.drewN nq)
              go_wp2_with (at_builtin; refine wpList_append_own_at _ rfl (.tmp 45) (.tmp 48) 37 rfl b2 3 i3 (.int .i64 0) 1 8 Try.underlying37 hi hz0 HI.out hz2 rfl (by decide) _ _ _ rfl (HN.out.2.1.1.alloc _) _ 1 1 [.int .i64 x.a] rfl rfl ?c1 ?c2 ?c3 ?c4 ?c5 ?_)
              case c1 => exact cell_one_new _ _ _
              case c2 => simp [Value.oneCell']
              case c3 => unfold maxLen; first | omega | (simp; done) | (simp; omega)
              case c4 => first | omega | (simp; done) | (simp; omega)
              case c5 => have := HN.out.2.1.2; simp at this ⊢; omega
              intro v' w3 hown' hg _ _
              have HA : Hid (RrAt w w3 w.heap.size b2 x v' ([z] ++ [x.a])) := Lib.hid (HN.out.app hown' hg)
              clear hown' hg
              go_wp2_with fail
              exact ⟨⟨k + 1, by go_num, by omega, by rw [HSN.out 97 [z, x.a] HC.out (by show (if [z].contains x.a then [z] else [z] ++ [x.a]) = _; rw [if_neg (by simpa using fun e => HZA.out e.symm)]; rfl)]; exact HA⟩, by simp [intOf]; omega⟩
        · have hn : (s[k]'hlt).toNat = 112 := by rw [hc]; rfl
          have HC := Lib.hid hc
          clear hc
          go_wp2_with fail
          go_quiet (fail)
          rename_i nq
          replace HN := Lib.hid (HN.out.drewN nq)
          go_wp2_with fail
          go_loopw [5, 7] (fun v i wj => ∃ j : Nat, i = .int .i64 (j + 1 : Nat) ∧ (j : Int) ≤ max 0 x.ar ∧ Hid (RrAt w wj w.heap.size b2 x v (l ++ (List.range j).map fun i : Nat => (i : Int) + 1))) (fun _ i _ => x.ar.toNat + 1 - (intOf i).toNat)
          case atStart => exact ⟨0, rfl, by omega, by simpa using HN⟩
          case round =>
            obtain ⟨j, rfl, hj, HJ⟩ := hrel
            have har' := har.out
            clear p0 p1 p2 p3 p4 p5
            obtain ⟨p0, p1, p2, p3, p4, p5⟩ := BoxI.cells HJ.out.1
            by_cases hjl : (j : Int) < x.ar
            · go_wp2_with (at_builtin; refine wpList_append_own_at _ rfl (.tmp 61) (.tmp 63) 37 rfl b2 3 i3 (.int .i64 0) 1 8 Try.underlying37 hi hz0 HI.out hz2 rfl (by decide) _ _ _ rfl (HJ.out.2.1.1.alloc _) ⟨wr.heap.size, 0, none⟩ 1 1 [.int .i64 ((j + 1 : Nat) : Int)] rfl rfl ?d1 ?d2 ?d3 ?d4 ?d5 ?_)
              case d1 => exact cell_one_new _ _ _
              case d2 => simp [Value.oneCell']
              case d3 => unfold maxLen; first | omega | (simp; done) | (simp; omega)
              case d4 => first | omega | (simp; done) | (simp; omega)
              case d5 => have := HJ.out.2.1.2; simp at this ⊢; omega
              intro v' w3 hown' hg _ _
              have HA : Hid (RrAt w w3 w.heap.size b2 x v' (l ++ (List.range (j + 1)).map fun i : Nat => (i : Int) + 1)) := Lib.hid (by
                have := HJ.out.app (z := (j : Int) + 1) (by rw [List.length_append, List.length_map, List.length_range]; exact hown') hg
                rw [List.append_assoc] at this
                rw [List.range_succ, List.map_append]; exact this)
              clear hown' hg
              go_wp2_with fail
              exact ⟨⟨j + 1, by go_num, by omega, HA⟩, by simp [intOf]; omega⟩
            · have hjt : j = x.ar.toNat := by omega
              go_wp2_with fail
              exact ⟨⟨k + 1, by go_num, by omega, by rw [HSN.out 112 (l ++ (List.range j).map fun i : Nat => (i : Int) + 1) HC.out (by rw [hjt]; rfl)]; exact HJ⟩, by simp [intOf]; omega⟩
      · have HE : Hid (regsOf x s.data.toList = l) := Lib.hid (by
          unfold regsOf; rw [HF.out, ← HL.out, List.take_of_length_le (by simp; omega)]; rfl)
        go_wp2_with fail
        go_ret
        refine ⟨_, rfl, ?_⟩
        rw [HE.out]
        exact ⟨own_base HN.out.2.1.1 (by have := HN.out.2.2.2; omega), HN.out.2.2.1⟩
end Go.Proofs.Yteffpeokialeiaa
