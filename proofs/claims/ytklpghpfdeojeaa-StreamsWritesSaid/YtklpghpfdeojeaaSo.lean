/-
  Walks: a file is inserted by the program.
-/
import Derived.Test.YtklpghpfdeojeaaSk
import Derived.Laws.Cover1
import Derived.Deep.Cut
import Derived.Deep.CutBlock
namespace Go.Proofs.Ytklpghpfdeojeaa
open Go.RowKit

theorem own_le {w : World} {base base' size n : Nat} {e : TypeId} {v : Value} {xs : List Value} (h : w.ownsRow base e size v n xs) (hb : base' ≤ base) : w.ownsRow base' e size v n xs :=
  ⟨h.1, h.2.elim Or.inl fun ⟨g, cap, cur, hv, hg, r⟩ => Or.inr ⟨g, cap, cur, hv, Nat.le_trans hb hg, r⟩⟩
/-- a file whose name is greater -/
def gtF (f x : F) : Bool := !Op.bytesLess x.name.toList f.name.toList && !x.name.toList == f.name.toList
theorem insert1_any (x : F) (b : Nat) (f : F) (w : World) (hc0 : w.cell? ⟨b, 0, none⟩ = some (.string f.name)) (hc1 : w.cell? ⟨b, 1, none⟩ = some (.string f.text)) (hb : b < w.heap.size) :
    Calls Try.prog 70 #[x.v, .pointer (some ⟨b, 0, none⟩)] w fun e w' => e = .returned (.bool (gtF f x)) ∧ Below w.heap.size w w' := by
  have HT := Lib.hid hc1
  clear hc1
  go_enter Try.func70, Try.ntmps70
  go_wp2
  go_ret
  exact ⟨rfl, bAlloc _ _⟩

set_option maxHeartbeats 400000 in
theorem index70_any (A : Option Addr) (n c : Nat) (l : List F) (bp : Nat) (f : F) (w : World) (ha : FilesAt w w.heap.size A n l) (hbp : bp < w.heap.size) (hc0 : w.cell? ⟨bp, 0, none⟩ = some (.string f.name)) (hc1 : w.cell? ⟨bp, 1, none⟩ = some (.string f.text)) :
    Calls Try.prog 68 #[.slice A n c, .func (.func 70) #[] #[.pointer (some ⟨bp, 0, none⟩)]] w fun e w' => e = .returned (.int .i64 (idxI l (gtF f))) ∧ Below w.heap.size w w' := by
  have hn := ha.1.2
  have HA := Lib.hid ha
  have HC0 := Lib.hid hc0
  have HC1 := Lib.hid hc1
  clear ha hc0 hc1
  go_enter Try.func68, Try.ntmps68
  go_wp2
  go_loopw [9] (fun i wr => ∃ k : Nat, k ≤ n ∧ i = .int .i64 k ∧ Hid (∀ (j : Nat) z, j < k → l[j]? = some z → (gtF f) z = false) ∧ Hid (Below w.heap.size w wr)) (fun i _ => n - (intOf i).toNat)
  case atStart => exact ⟨0, by omega, rfl, Lib.hid fun j z h => absurd h (by omega), Below.refl _ _⟩
  case round =>
    obtain ⟨k, hk, rfl, HP, HB⟩ := hrel
    have hz := HB.out.size
    by_cases hlt : k < n
    · obtain ⟨b, off, x, rfl, hb, hx, hx4⟩ := HA.out.at hlt
      obtain ⟨q0, q1⟩ := hx4.below hb HB.out
      have HX := Lib.hid hx
      have HN := Lib.hid (HB.out.alloc hz (.cells #[.string x.name, .string x.text] 35))
      clear hx hx4
      go_wp2_with fail
      refine (insert1_any _ bp f _ ((HN.out.cell (p := ⟨bp, 0, none⟩) hbp).trans HC0.out) ((HN.out.cell (p := ⟨bp, 1, none⟩) hbp).trans HC1.out) (by simp; omega)).mono ?_
      rintro e w2 ⟨rfl, hb2⟩
      have HB2 := Lib.hid (bNext HN.out hb2)
      clear hb2
      cases hpx : (gtF f) x
      · have HQ := Lib.hid hpx
        clear hpx
        go_wp2_with fail
        exact ⟨⟨k + 1, by omega, by go_num, Lib.hid fun j z hj hz => by
          rcases Nat.lt_or_ge j k with h | h
          · exact HP.out j z h hz
          · rw [show j = k by omega, HX.out] at hz
            injection hz with hz
            rw [← hz]; exact HQ.out, HB2.out⟩, by simp [intOf]; omega⟩
      · have HQ := Lib.hid (idxI_yes HX.out hpx HP.out)
        clear hpx
        go_wp2_with fail
        go_ret
        exact ⟨ret_int HQ.out.symm, HB2.out⟩
    · have HQ := Lib.hid (idxI_no (l := l) (p := gtF f) fun j z hz => HP.out j z (by have := (List.getElem?_eq_some_iff.1 hz).1; have := HA.out.1.1; omega) hz)
      go_wp2_with fail
      go_ret
      exact ⟨ret_int HQ.out.symm, HB.out⟩

def posF (l : List F) (f : F) : Nat := if idxI l (gtF f) < 0 then l.length else (idxI l (gtF f)).toNat
def insF (l : List F) (f : F) : List F := l.take (posF l f) ++ f :: l.drop (posF l f)
theorem posF_le (l : List F) (f : F) : posF l f ≤ l.length := by
  unfold posF
  rcases idxI_cases l (gtF f) with ⟨h, -⟩ | ⟨k, x, h, hk, -⟩
  · rw [h]; simp
  · rw [h]
    split
    · omega
    · simp; omega
set_option maxHeartbeats 1000000 in
theorem insert_any (A : Option Addr) (n c : Nat) (l : List F) (f : F) (w : World) (ha : FilesAt w w.heap.size A n l) (hcap : CapOk A n c) (hn : n ≤ 4398046511100) :
    Calls Try.prog 31 #[.slice A n c, f.v] w fun e w' => (∃ v, e = .returned v ∧ w'.ownsRow w.heap.size 35 2 v (n + 1) (fCs (insF l f))) ∧ Below w.heap.size w w' := by
  obtain ⟨i0, hi0, hz0, hy0, hb0⟩ := info_parts info35
  have hl := ha.1.1
  have HA := Lib.hid ha
  have HC := Lib.hid hcap
  have hnc := hcap.1
  have hpl := posF_le l f
  clear ha hcap
  go_enter Try.func31, Try.ntmps31
  go_wp2_with fail
  have hk := Blk.new w 35 #[.string f.name, .string f.text]
  have HB0 := Lib.hid (bAlloc w (.cells #[.string f.name, .string f.text] 35))
  refine (index70_any A n c l w.heap.size f _ (HA.out.next HB0.out) hk.lt (hk.cell 0) (hk.cell 1)).mono ?_
  rintro e w1 ⟨rfl, hb1⟩
  have HK := Lib.hid (hk.next hb1)
  have HB1 := Lib.hid (bNext HB0.out hb1)
  have hz1 := HK.out.lt
  obtain ⟨k, hkp⟩ : ∃ k, posF l f = k := ⟨_, rfl⟩
  rw [hkp] at hpl
  have HP := Lib.hid hkp
  clear hk hb1 hkp
  have hidx : (idxI l (gtF f) < 0 ∧ k = n) ∨ (¬ idxI l (gtF f) < 0 ∧ idxI l (gtF f) = (k : Int)) := by
    have h := HP.out
    unfold posF at h
    by_cases h0 : idxI l (gtF f) < 0
    · rw [if_pos h0] at h; exact .inl ⟨h0, by omega⟩
    · rw [if_neg h0] at h; exact .inr ⟨h0, by omega⟩
  obtain ⟨j, hj⟩ : ∃ j, idxI l (gtF f) = j := ⟨_, rfl⟩
  rw [hj] at hidx ⊢
  clear hj
  have hjd : (j < 0 ∧ k = n ∧ decide (j < 0) = true) ∨ (j = (k : Int) ∧ decide (j < 0) = false) := by
    rcases hidx with ⟨h0, h1⟩ | ⟨h0, h1⟩
    · exact .inl ⟨h0, h1, by simpa using h0⟩
    · exact .inr ⟨h1, by simpa using h0⟩
  clear hidx
  go_upto_if 11 with fail
  go_cut [5] from 12 to 13 (fun s5 wx => s5 = .int .i64 (k : Int) ∧ wx = w1)
  case first =>
    rcases hjd with ⟨h0, rfl, h1⟩ | ⟨rfl, h1⟩
    · go_wp2_with fail
      go_meet
      exact ⟨rfl, rfl⟩
    · go_wp2_with fail
      go_meet
      exact ⟨rfl, rfl⟩
  case rest =>
    obtain ⟨rfl, rfl⟩ := hcut
    have hkn : k ≤ n := by rw [← hl]; exact hpl
    have hkc : k ≤ c := by omega
    clear hjd
    have hmade : (wc.alloc (.cells #[] 35)).ownsRow (w.heap.size + 1) 35 2 (.slice (some ⟨wc.heap.size, 0, none⟩) 0 0) 0 [] :=
      World.ownsRow_made (e := 35) (size := 2) wc #[] 0 (by omega) (by decide) rfl
    have HM := Lib.hid hmade
    have hck : CapOk A k c := ⟨hkc, HC.out.2⟩
    have hft : FilesAt wc w.heap.size A k (l.take k) := by
      have h := HA.out.below HB1.out
      refine ⟨⟨by simp [hl]; omega, by omega⟩, fun h0 => ?_⟩
      obtain ⟨b, off, e, hb, hc⟩ := h.2 (by omega)
      exact ⟨b, off, e, hb, fun i x hx => hc i x (by rw [List.getElem?_take] at hx; split at hx <;> first | exact hx | cases hx)⟩
    have HFT := Lib.hid hft
    clear hmade hft
    go_wp2_with (at_builtin; refine wpList_append_src rfl (.tmp 14) (.tmp 17) 22 rfl (w.heap.size + 1) 35 i0 _ 2 32 Try.underlying22 hi0 hz0 hy0 hb0 rfl (by decide) _ 0 [] rfl HM.out A k c (fCs (l.take k)) rfl hck ?c1 ?c2 ?c3 ?c4 ?c5 ?c6 ?_)
    case c1 => rw [fCs_len, List.length_take]; omega
    case c2 => exact files_cells (HFT.out.below ((Below.refl _ wc).alloc (by omega) _))
    case c3 => exact f_one _
    case c4 => unfold maxLen; omega
    case c5 => omega
    case c6 => simp; omega
    intro v1 w2 ho1 hg1 hat1
    obtain ⟨D1, e1, rfl, -, -, -⟩ := own_files ho1 (by omega)
    have ho1 : w2.ownsRow (w.heap.size + 1) 35 2 (.slice D1 k e1) k (fCs (l.take k)) := by simpa using ho1
    have hz2 := hg1.size
    simp at hz2
    have hbx2 := (HK.out.alloc (.cells #[] 35)).grown hg1 (by simp [Value.ownBlock]; omega)
    have hbw2 : Below w.heap.size w w2 := (HB1.out.alloc (by omega) _).grown hg1 (by simp; omega) (fun k hk => by simp [Value.ownBlock] at hk; omega)
    have x0 := hbx2.cell 0
    have x1 := hbx2.cell 1
    have xz := hbx2.lt
    simp at x0 x1
    have HO1 := Lib.hid ho1
    have HBX2 := Lib.hid hbx2
    have HBW2 := Lib.hid hbw2
    clear ho1 hg1 hat1 hbx2 hbw2
    go_upto_region 5 with fail
    go_wp2_with (at_builtin; refine wpList_append_src rfl (.tmp 19) (.tmp 21) 22 rfl (w.heap.size + 1) 35 i0 _ 2 32 Try.underlying22 hi0 hz0 hy0 hb0 rfl (by decide) _ k (fCs (l.take k)) rfl (HO1.out.alloc _) (some ⟨w2.heap.size, 0, none⟩) 1 1 [.string f.name, .string f.text] rfl ⟨by omega, fun e => by cases e⟩ ?c1 ?c2 ?c3 ?c4 ?c5 ?c6 ?_)
    case c1 => rfl
    case c2 =>
      intro ad e j u hj
      injection e with e
      subst e
      have h := (Blk.new w2 35 #[.string f.name, .string f.text]).cell j
      rw [add_plain, Nat.zero_add, h]
      simpa using hj
    case c3 => simp [Value.oneCell']
    case c4 => unfold maxLen; omega
    case c5 => omega
    case c6 => simp; omega
    intro v2 w3 ho2 hg2 hat2
    have ho2 : w3.ownsRow (w.heap.size + 1) 35 2 v2 (k + 1) (fCs (l.take k ++ [f])) := by rw [fCs_app]; exact ho2
    obtain ⟨D2, e2, rfl, -, -, -⟩ := own_files ho2 (by omega)
    have hz3 := hg2.size
    simp at hz3
    have hbw3 : Below w.heap.size w w3 := (HBW2.out.alloc (by omega) _).grown hg2 (by simp; omega) (fun k hk => by have := (HO1.out.lt k hk).1; omega)
    have HO2 := Lib.hid ho2
    have HBW3 := Lib.hid hbw3
    clear ho2 hg2 hat2 hbw3
    have hdl : (l.drop k).length = n - k := by simp [hl]
    have hin := hl
    clear hck HK HM HBX2 HFT hl
    have hread : ∀ j u, (fCs (l.drop k))[j]? = some u → k < n ∧ (fCs l)[k * 2 + j]? = some u := fun j u hj => by
      refine ⟨?_, ?_⟩
      · have := (List.getElem?_eq_some_iff.1 hj).1
        rw [fCs_len] at this
        omega
      · rw [← List.take_append_drop k l, fCs_app, List.getElem?_append_right (by rw [fCs_len, List.length_take]; omega), fCs_len, List.length_take, show k * 2 + j - min k l.length * 2 = j by omega]
        exact hj
    have hw3 : ∀ ad, A = some ad → 0 < n → ∃ b off, ad = ⟨b, off, none⟩ ∧ ∀ j u, (fCs l)[j]? = some u → w3.cell? ⟨b, off + j, none⟩ = some u := fun ad e h0 => by
      have h := (HA.out.below HBW3.out)
      obtain ⟨b, off, e', -, -⟩ := h.2 h0
      rw [e] at e'
      injection e' with e'
      subst e'
      exact ⟨b, off, rfl, fun j u hj => by have := files_cells h _ e j u hj; rwa [add_plain] at this⟩
    have HW3 := Lib.hid hw3
    have HRD := Lib.hid hread
    have hins : insF l f = (l.take k ++ [f]) ++ l.drop k := by unfold insF; rw [HP.out]; simp
    have HIN := Lib.hid hins
    clear hw3 hread hins
    rcases A with _ | ad
    · have h0 := HC.out.2 rfl
      obtain rfl : k = 0 := by omega
      obtain rfl : n = 0 := by omega
      subst h0
      go_upto_region 6 with fail
      go_wp2_with (at_builtin; refine wpList_append_src rfl (.tmp 23) (.tmp 26) 22 rfl (w.heap.size + 1) 35 i0 _ 2 32 Try.underlying22 hi0 hz0 hy0 hb0 rfl (by decide) _ (0 + 1) (fCs (l.take 0 ++ [f])) rfl HO2.out (none) 0 0 (fCs (l.drop 0)) rfl ?a0 ?a1 ?a2 ?a3 ?a4 ?a5 ?a6 ?_)
      case a1 => rw [fCs_len]; omega
      case a3 => exact f_one _
      case a4 => unfold maxLen; omega
      case a5 => omega
      case a6 => omega
      case a0 => exact ⟨by omega, fun _ => rfl⟩
      case a2 => intro ad e; cases e
      intro v3 w4 ho3 hg3 hat3
      have HO3 := Lib.hid ho3
      have hbw4 : Below w.heap.size w w4 := HBW3.out.grown hg3 (by omega) (fun k hk => by have := (HO2.out.lt k hk).1; omega)
      clear ho3 hg3 hat3
      go_wp2_with fail
      go_ret
      refine ⟨⟨v3, rfl, ?_⟩, hbw4⟩
      have hm := own_le HO3.out (Nat.le_succ _)
      rw [HIN.out, fCs_app]
      exact hm
    · rcases Nat.lt_or_ge k c with hkc' | hkc'
      · go_upto_region 6 with fail
        go_wp2_with (at_builtin; refine wpList_append_src rfl (.tmp 23) (.tmp 26) 22 rfl (w.heap.size + 1) 35 i0 _ 2 32 Try.underlying22 hi0 hz0 hy0 hb0 rfl (by decide) _ (k + 1) (fCs (l.take k ++ [f])) rfl HO2.out (some (ad.add (k * 2))) (n - k) (c - k) (fCs (l.drop k)) rfl ?b0 ?b1 ?b2 ?b3 ?b4 ?b5 ?b6 ?_)
        case b1 => rw [fCs_len]; omega
        case b3 => exact f_one _
        case b4 => unfold maxLen; omega
        case b5 => omega
        case b6 => omega
        case b0 => exact ⟨by omega, fun e => by cases e⟩
        case b2 =>
          intro ad' e j u hj
          injection e with e
          subst e
          obtain ⟨h0, h1⟩ := HRD.out j u hj
          obtain ⟨b, off, rfl, h2⟩ := HW3.out _ rfl (by omega)
          rw [add_plain, add_plain, show off + k * 2 + j = off + (k * 2 + j) by omega]
          exact h2 _ _ h1
        intro v3 w4 ho3 hg3 hat3
        have HO3 := Lib.hid ho3
        have hbw4 : Below w.heap.size w w4 := HBW3.out.grown hg3 (by omega) (fun k hk => by have := (HO2.out.lt k hk).1; omega)
        clear ho3 hg3 hat3
        go_wp2_with fail
        go_ret
        refine ⟨⟨v3, rfl, ?_⟩, hbw4⟩
        have hm := own_le HO3.out (Nat.le_succ _)
        have he : k + 1 + (n - k) = n + 1 := by omega
        rw [he] at hm
        rw [HIN.out, fCs_app]
        exact hm
      · obtain rfl : k = c := by omega
        obtain rfl : k = n := by omega
        go_upto_region 6 with fail
        go_wp2_with (at_builtin; refine wpList_append_src rfl (.tmp 23) (.tmp 26) 22 rfl (w.heap.size + 1) 35 i0 _ 2 32 Try.underlying22 hi0 hz0 hy0 hb0 rfl (by decide) _ (k + 1) (fCs (l.take k ++ [f])) rfl HO2.out (some ad) 0 0 (fCs (l.drop k)) rfl ?c0 ?c1 ?c2 ?c3 ?c4 ?c5 ?c6 ?_)
        case c1 => rw [fCs_len]; omega
        case c3 => exact f_one _
        case c4 => unfold maxLen; omega
        case c5 => omega
        case c6 => omega
        case c0 => exact ⟨by omega, fun e => by cases e⟩
        case c2 =>
          intro ad' e j u hj
          exact absurd (HRD.out j u hj).1 (by omega)
        intro v3 w4 ho3 hg3 hat3
        have HO3 := Lib.hid ho3
        have hbw4 : Below w.heap.size w w4 := HBW3.out.grown hg3 (by omega) (fun k hk => by have := (HO2.out.lt k hk).1; omega)
        clear ho3 hg3 hat3
        go_wp2_with fail
        go_ret
        refine ⟨⟨v3, rfl, ?_⟩, hbw4⟩
        have hm := own_le HO3.out (Nat.le_succ _)
        have he : k + 1 + 0 = k + 1 := by omega
        rw [he] at hm
        rw [HIN.out, fCs_app]
        exact hm
end Go.Proofs.Ytklpghpfdeojeaa
