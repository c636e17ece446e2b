/-
  Walks: code.registers.
-/
import Derived.Test.YteffpeokialeiaaAf
import Derived.Test.YteffpeokialeiaaAj
import Derived.Test.YteffpeokialeiaaAm
import Derived.Outline
namespace Go.Proofs.Yteffpeokialeiaa
open Go.RowKit

/-- a row of integers in memory of the call's own -/
def OwnL (w w' : World) (v : Value) (l : List Int) : Prop := w'.ownsRow w.heap.size 3 1 v l.length (iCs l) ∧ Below w.heap.size w w'
def RetInts (w : World) (l : List Int) (e : Ending) (w' : World) : Prop := ∃ v, e = .returned v ∧ OwnL w w' v l
theorem fo_ar {x : In} (h : fo x = true) : x.ar ≤ 4096 := by
  obtain ⟨op, r, a, n, nm, ar⟩ := x
  have hs : sameI ⟨op, r, a, n, nm, ar⟩ (wantOf ⟨op, r, a, n, nm, ar⟩ (flds op)) = true := by unfold fo at h; simp only [Bool.and_eq_true] at h; exact h.2
  have hk : ∀ c ∈ flds op, fieldOk ⟨op, r, a, n, nm, ar⟩ c = true := by unfold fo at h; simp only [Bool.and_eq_true, List.all_eq_true] at h; exact h.1.2
  by_cases h102 : (102 : UInt8) ∈ flds op
  · have := hk _ h102
    have h2 : (nmOk nm && (decide (1 ≤ ar) && decide (ar ≤ 8))) = true := this
    simp at h2; show ar ≤ 4096; omega
  by_cases h112 : (112 : UInt8) ∈ flds op
  · have h2 : pdOk nm ar n = true := hk _ h112
    unfold pdOk at h2
    split at h2 <;> simp at h2 <;> (show ar ≤ 4096) <;> omega
  have key : ∀ (l : List UInt8) (y : In), (102 : UInt8) ∉ l → (112 : UInt8) ∉ l → (l.foldl (wantStep ⟨op, r, a, n, nm, ar⟩) y).ar = y.ar := by
    intro l
    induction l with
    | nil => intro y _ _; rfl
    | cons c l ih =>
      intro y h1 h2
      rw [List.foldl_cons, ih _ (fun e => h1 (List.mem_cons_of_mem _ e)) (fun e => h2 (List.mem_cons_of_mem _ e))]
      have c1 : c ≠ 102 := fun e => h1 (e ▸ List.mem_cons_self)
      have c2 : c ≠ 112 := fun e => h2 (e ▸ List.mem_cons_self)
      unfold wantStep
      repeat' split
      all_goals first | rfl | contradiction
  have hw := key (flds op) ⟨op, 0, 0, 0, ⟨#[]⟩, 0⟩ h102 h112
  unfold sameI at hs
  simp only [Bool.and_eq_true, beq_iff_eq] at hs
  have := hs.2.2.2.2.2
  unfold wantOf at this
  rw [hw] at this
  show ar ≤ 4096
  simp at this; omega
theorem reg_len (x : In) (h : x.ar ≤ 4096) : ∀ (s : List UInt8) (l : List Int), (s.foldl (regStep x) l).length ≤ l.length + s.length * 4096
  | [], l => by simp
  | c :: s, l => by
    rw [List.foldl_cons]
    have := reg_len x h s (regStep x l c)
    have h2 : (regStep x l c).length ≤ l.length + 4096 := by
      unfold regStep
      repeat' split
      all_goals simp
      omega
    simp only [List.length_cons]
    omega
/-- where the walk of registers stands -/
def RgAt (w0 wr : World) (b2 it : Nat) (s : ByteArray) (x : In) (k : Nat) (v : Value) (l : List Int) : Prop :=
  BoxI wr b2 x ∧ wr.heap[it]? = some (.stringIter s k) ∧ (wr.ownsRow (it + 1) 3 1 v l.length (iCs l) ∧ it + 1 ≤ wr.heap.size) ∧ Below w0.heap.size w0 wr ∧ (b2 < it ∧ w0.heap.size ≤ b2)
theorem RgAt.next {w0 wr : World} {b2 it : Nat} {s : ByteArray} {x : In} {k j : Nat} {v : Value} {l : List Int} (h : RgAt w0 wr b2 it s x k v l) : RgAt w0 (wr.iterAt it s j) b2 it s x j v l := by
  obtain ⟨h1, h3, ⟨h2, h2'⟩, h4, h5, h6⟩ := h
  have hz : (wr.iterAt it s j).heap.size = wr.heap.size := by simp [World.iterAt]
  refine ⟨(Lib.iterAt_other _ _ _ _ _ (by omega)).trans h1, Lib.iterAt_heap _ _ _ _ _ h3, ⟨own_stay h2 fun g hg => Lib.iterAt_other _ _ _ _ _ (by have := own_lt h2 hg; omega), by omega⟩, ?_, h5, h6⟩
  exact ⟨h4.os, h4.tape, h4.output, by rw [hz]; exact h4.size, fun g hg => (Lib.iterAt_other _ _ _ _ _ (by omega)).trans (h4.block g hg)⟩
theorem RgAt.app {w0 wr w3 : World} {b2 it : Nat} {s : ByteArray} {x : In} {k : Nat} {v v' : Value} {l : List Int} {z : Int} {o : Obj} (h : RgAt w0 wr b2 it s x k v l)
    (ho : w3.ownsRow (it + 1) 3 1 v' (l.length + 1) (iCs l ++ [.int .i64 z])) (hg : (wr.alloc o).grownBy w3 v.ownBlock) : RgAt w0 w3 b2 it s x k v' (l ++ [z]) := by
  obtain ⟨h1, h3, ⟨h2, h2'⟩, h4, h5, h6⟩ := h
  have hlt : it < wr.heap.size := (Array.getElem?_eq_some_iff.1 h3).1
  have hz : (wr.alloc o).heap.size = wr.heap.size + 1 := by simp
  refine ⟨(h1.alloc o).grown hg (fun e => by have := own_lt h2 e; omega), ?_, ⟨?_, ?_⟩, ?_, h5, h6⟩
  · rw [hg.block it (by omega) (fun e => by have := own_lt h2 e.symm; omega), heap_alloc_old _ _ hlt]; exact h3
  · rw [List.length_append, show iCs (l ++ [z]) = iCs l ++ [.int .i64 z] by simp [iCs]]; exact ho
  · have := hg.size; omega
  · exact (h4.alloc (by omega) o).grown hg (by omega) (fun g e => by have := own_lt h2 e; omega)
theorem RgAt.pos {w0 wr : World} {b2 it : Nat} {s : ByteArray} {x : In} {k : Nat} {v : Value} {l : List Int} (h : RgAt w0 wr b2 it s x k v l) : wr.iterPos it = k := by unfold World.iterPos; rw [h.2.1]
theorem RgAt.ints {w0 wr : World} {b2 it : Nat} {s : ByteArray} {x : In} {k : Nat} {v : Value} {l : List Int} (h : RgAt w0 wr b2 it s x k v l) (hn : l.length ≤ 1000000) :
    ∃ A c, v = .slice A l.length c ∧ IntsAt wr wr.heap.size A l.length l := by
  obtain ⟨A, c, rfl, _⟩ := own_form h.2.2.1.1
  exact ⟨A, c, rfl, own_ints h.2.2.1.1 hn⟩

set_option maxRecDepth 100000 in
set_option maxHeartbeats 1000000 in
theorem registers_any (x : In) (s : ByteArray) (w : World) (hs : ∀ c ∈ s.data.toList, c = 114 ∨ c = 97 ∨ c = 112) (hs2 : s.size ≤ 2) :
    Calls Try.prog 36 #[x.v, .string s] w (RetInts w (regsOf x s.data.toList)) := by
  obtain ⟨i3, hi, hz0, hz1, hz2⟩ := info_parts info3
  have HI := Lib.hid hz1
  go_enter Try.func36, Try.ntmps36
  go_wp2_with fail
  refine (formed_any _ _).mono ?_
  rintro e w1 ⟨rfl, hb⟩
  have hx1 := (BoxI.new w x).next hb
  have HB := Lib.hid (bStart hb)
  have hz : w.heap.size < w1.heap.size := by have := hb.size; simp at this; omega
  clear hb
  have HX := Lib.hid hx1
  cases hf : fo x with
  | false =>
    have HF := Lib.hid hf
    clear hf hx1
    go_wp2_with fail
    go_ret
    exact ⟨_, rfl, by
      unfold regsOf; rw [HF.out]
      exact ⟨⟨rfl, .inl ⟨rfl, rfl⟩⟩, HB.out⟩⟩
  | true =>
    have HF := Lib.hid hf
    have har := Lib.hid (fo_ar hf)
    have HZ := Lib.hid hz
    clear hf hx1
    go_wp2_with fail
    clear hz
    go_loopw [4] (fun v wr => ∃ k : Nat, k ≤ s.size ∧ Hid (RgAt w wr w.heap.size w1.heap.size s x k v ((s.data.toList.take k).foldl (regStep x) []))) (fun _ wr => s.size - wr.iterPos w1.heap.size)
    case atStart =>
      have hz := HZ.out
      exact ⟨0, Nat.zero_le _, Lib.hid ⟨HX.out.alloc _, World.iter_heap _ _ _, ⟨⟨rfl, .inl ⟨rfl, rfl⟩⟩, by simp [World.iter]⟩, HB.out.alloc (by omega) _, hz, Nat.le_refl _⟩⟩
    case round =>
      obtain ⟨k, hk, HR⟩ := hrel
      generalize hit : w1.heap.size = it at HR ⊢
      have HIT := Lib.hid hit
      clear hit
      generalize hl : (s.data.toList.take k).foldl (regStep x) [] = l at HR
      have HL := Lib.hid hl
      have hll : l.length ≤ 8192 := by
        have h1 := reg_len x har.out (s.data.toList.take k) []
        have h2 : (s.data.toList.take k).length ≤ 2 := by simp; omega
        rw [hl] at h1
        simp only [List.length_nil] at h1
        omega
      clear hl
      by_cases hlt : k < s.size
      · have hget : s.data.toList[k]? = some (s[k]'hlt) := by simp [hlt]; rfl
        have hmem := hs _ (List.mem_of_getElem? hget)
        generalize hc : s[k]'hlt = c at hget hmem
        have HC := Lib.hid hc
        have HG := Lib.hid hget
        clear hc hget
        have hsn : ∀ (c' : UInt8) m, c = c' → regStep x l c' = m → (s.data.toList.take (k + 1)).foldl (regStep x) [] = m := fun c' m e1 e2 => by
          rw [List.take_add_one, HG.out, e1]; simp [HL.out, e2]
        have HSN := Lib.hid hsn
        clear hsn
        obtain ⟨w2, hw2⟩ : ∃ w2, w2 = wr.iterAt it s (k + 1) := ⟨_, rfl⟩
        have HN : Hid (RgAt w w2 w.heap.size it s x (k + 1) u4 l) := by rw [hw2]; exact Lib.hid HR.out.next
        have HW := Lib.hid hw2
        clear hw2
        obtain ⟨p0, p1, p2, p3, p4, p5⟩ := BoxI.cells HN.out.1
        rcases hmem with rfl | rfl | rfl
        · have hn := fun ty => next_lit hlt HR.out.2.1 HC.out (by decide) 114 rfl ty
          rw [← HW.out] at hn
          go_wp2_with (at_builtin; refine wpList_append_own_at _ rfl (.tmp 19) (.tmp 22) 37 rfl (it + 1) 3 i3 (.int .i64 0) 1 8 Try.underlying37 hi hz0 HI.out hz2 rfl (by decide) _ _ _ rfl (HN.out.2.2.1.1.alloc _) ⟨w2.heap.size, 0, none⟩ 1 1 [.int .i64 x.r] rfl rfl ?a1 ?a2 ?a3 ?a4 ?a5 ?_)
          case a1 => exact cell_one_new _ _ _
          case a2 => simp [Value.oneCell']
          case a3 => unfold maxLen; (try simp only [List.length_append, List.length_map, List.length_range]); omega
          case a4 => (try simp only [List.length_append, List.length_map, List.length_range]); omega
          case a5 => have := HN.out.2.2.1.2; simp; omega
          intro v' w3 hown' hg _ _
          have HA : Hid (RgAt w w3 w.heap.size it s x (k + 1) v' (l ++ [x.r])) := Lib.hid (HN.out.app hown' hg)
          clear hown' hg
          go_wp2_with fail
          exact ⟨⟨k + 1, by omega, by rw [HSN.out 114 _ rfl rfl]; exact HA⟩, by have e1 := HA.out.pos; have e2 := HR.out.pos; omega⟩
        · have hn := fun ty => next_lit hlt HR.out.2.1 HC.out (by decide) 97 rfl ty
          rw [← HW.out] at hn
          obtain ⟨A, cA, rfl, hI⟩ := HN.out.ints (by omega)
          have HII := Lib.hid hI
          clear hI
          go_wp2_with fail
          refine (contains_any _ _ _ _ _ _ HII.out).mono ?_
          rintro e w' ⟨rfl, rfl⟩
          cases hcon : l.contains x.a with
          | true =>
            have HCN := Lib.hid hcon
            clear hcon
            go_wp2_with fail
            exact ⟨⟨k + 1, by omega, by rw [HSN.out 97 l rfl (by show (if l.contains x.a then l else l ++ [x.a]) = l; rw [HCN.out]; rfl)]; exact HN⟩, by have e1 := HN.out.pos; have e2 := HR.out.pos; omega⟩
          | false =>
            have HCN := Lib.hid hcon
            clear hcon
            go_wp2_with (at_builtin; refine wpList_append_own_at _ rfl (.tmp 31) (.tmp 34) 37 rfl (it + 1) 3 i3 (.int .i64 0) 1 8 Try.underlying37 hi hz0 HI.out hz2 rfl (by decide) _ _ _ rfl (HN.out.2.2.1.1.alloc _) ⟨w2.heap.size, 0, none⟩ 1 1 [.int .i64 x.a] rfl rfl ?b1 ?b2 ?b3 ?b4 ?b5 ?_)
            case b1 => exact cell_one_new _ _ _
            case b2 => simp [Value.oneCell']
            case b3 => unfold maxLen; (try simp only [List.length_append, List.length_map, List.length_range]); omega
            case b4 => (try simp only [List.length_append, List.length_map, List.length_range]); omega
            case b5 => have := HN.out.2.2.1.2; simp; omega
            intro v' w3 hown' hg _ _
            have HA : Hid (RgAt w w3 w.heap.size it s x (k + 1) v' (l ++ [x.a])) := Lib.hid (HN.out.app hown' hg)
            clear hown' hg
            go_wp2_with fail
            exact ⟨⟨k + 1, by omega, by rw [HSN.out 97 (l ++ [x.a]) rfl (by show (if l.contains x.a then l else l ++ [x.a]) = _; rw [HCN.out]; rfl)]; exact HA⟩, by have e1 := HA.out.pos; have e2 := HR.out.pos; omega⟩
        · have hn := fun ty => next_lit hlt HR.out.2.1 HC.out (by decide) 112 rfl ty
          rw [← HW.out] at hn
          have HW2 := Lib.hid (show (0 : Int) ≤ 0 by decide)
          go_wp2_with fail
          go_loopw [4, 40] (fun v i wj => ∃ j : Nat, i = .int .i64 j ∧ (j : Int) ≤ max 0 x.ar ∧ Hid (RgAt w wj w.heap.size it s x (k + 1) v (l ++ (List.range j).map fun i : Nat => (i : Int) + 1))) (fun _ i _ => x.ar.toNat - (intOf i).toNat)
          case atStart => exact ⟨0, rfl, by omega, by simpa using HN⟩
          case round =>
            obtain ⟨j, rfl, hj, HN⟩ := hrel
            have har' := har.out
            by_cases hjl : (j : Int) < x.ar
            · go_wp2_with (at_builtin; refine wpList_append_own_at _ rfl (.tmp 43) (.tmp 46) 37 rfl (it + 1) 3 i3 (.int .i64 0) 1 8 Try.underlying37 hi hz0 HI.out hz2 rfl (by decide) _ _ _ rfl (HN.out.2.2.1.1.alloc _) ⟨wr.heap.size, 0, none⟩ 1 1 [.int .i64 ((j : Int) + 1)] rfl rfl ?d1 ?d2 ?d3 ?d4 ?d5 ?_)
              case d1 => exact cell_one_new _ _ _
              case d2 => simp [Value.oneCell']
              case d3 => unfold maxLen; (try simp only [List.length_append, List.length_map, List.length_range]); omega
              case d4 => (try simp only [List.length_append, List.length_map, List.length_range]); omega
              case d5 => have := HN.out.2.2.1.2; simp; omega
              intro v' w3 hown' hg _ _
              have HA : Hid (RgAt w w3 w.heap.size it s x (k + 1) v' (l ++ (List.range (j + 1)).map fun i : Nat => (i : Int) + 1)) := Lib.hid (by
                have := HN.out.app (z := (j : Int) + 1) (by rw [List.length_append, List.length_map, List.length_range]; exact hown') hg
                rw [List.append_assoc] at this
                rw [List.range_succ, List.map_append]; exact this)
              clear hown' hg
              go_wp2_with fail
              exact ⟨⟨j + 1, by go_num, by omega, HA⟩, by simp [intOf]; omega⟩
            · have hjt : j = x.ar.toNat := by omega
              go_wp2_with fail
              exact ⟨⟨k + 1, by omega, by rw [HSN.out 112 (l ++ (List.range j).map fun i : Nat => (i : Int) + 1) rfl (by rw [hjt]; rfl)]; exact HN⟩, by have e1 := HN.out.pos; have e2 := HR.out.pos; omega⟩
      · have hn := fun ty => Lib.run_next_end_at (P := Try.prog) wr it s k ty HR.out.2.1 hlt
        have HE : Hid (regsOf x s.data.toList = l) := Lib.hid (by
          unfold regsOf; rw [HF.out, ← HL.out, List.take_of_length_le (by simp; omega)]; rfl)
        go_wp2_with fail
        go_ret
        refine ⟨_, rfl, ?_⟩
        rw [HE.out]
        exact ⟨own_base HR.out.2.2.1.1 (by have := HR.out.2.2.2.2; omega), HR.out.2.2.2.1⟩
end Go.Proofs.Yteffpeokialeiaa
