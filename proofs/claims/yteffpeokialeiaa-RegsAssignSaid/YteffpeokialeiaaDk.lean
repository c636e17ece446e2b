/-
  Temporaries in memory (the reference); walks: among, used, number.
-/
import Derived.Test.YteffpeokialeiaaDf
import Derived.Test.YteffpeokialeiaaCb
import Derived.Outline
namespace Go.Proofs.Yteffpeokialeiaa
open Go.RowKit

theorem info50 : (Try.prog.info? 50).map (fun i => (i.zero, i.size, i.bytes)) = some (some (.agg #[.int .i64 0, .int .i64 0, .int .i64 0, .int .i64 0]), 4, 32) := by kernel_rfl
theorem info4 : (Try.prog.info? 4).map (fun i => (i.zero, i.size, i.bytes)) = some (some (.bool false), 1, 1) := by kernel_rfl
@[reducible] def Tm.v (t : Tm) : Value := .agg #[.int .i64 t.x, .int .i64 t.n, .int .i64 t.f, .int .i64 t.l]
def TCells (w : World) (b o : Nat) (t : Tm) : Prop :=
  w.cell? ⟨b, o, none⟩ = some (.int .i64 t.x) ∧ w.cell? ⟨b, o + 1, none⟩ = some (.int .i64 t.n) ∧ w.cell? ⟨b, o + 2, none⟩ = some (.int .i64 t.f) ∧ w.cell? ⟨b, o + 3, none⟩ = some (.int .i64 t.l)
def TmsAt (w : World) (B : Nat) (A : Option Addr) (n : Nat) (l : List Tm) : Prop :=
  (l.length = n ∧ n ≤ 3000000000000) ∧ (0 < n → ∃ b off, A = some ⟨b, off, none⟩ ∧ b < B ∧ ∀ i x, l[i]? = some x → TCells w b (off + i * 4) x)
section
variable {w w' : World} {B B' n : Nat} {A : Option Addr}
theorem TCells.below {b o : Nat} {x : Tm} (h : TCells w b o x) (hB : b < B) (hb : Below B w w') : TCells w' b o x := by
  obtain ⟨h0, h1, h2, h3⟩ := h
  have hc : ∀ o, w'.cell? ⟨b, o, none⟩ = w.cell? ⟨b, o, none⟩ := fun o => hb.cell (p := ⟨b, o, none⟩) hB
  exact ⟨(hc _).trans h0, (hc _).trans h1, (hc _).trans h2, (hc _).trans h3⟩
theorem TmsAt.at {l : List Tm} (h : TmsAt w B A n l) {i : Nat} (hi : i < n) :
    ∃ b off x, A = some ⟨b, off, none⟩ ∧ b < B ∧ l[i]? = some x ∧ TCells w b (off + i * 4) x := by
  obtain ⟨⟨hn, _⟩, h⟩ := h
  obtain ⟨b, off, e, hb, hc⟩ := h (by omega)
  have hx : l[i]? = some (l[i]'(by omega)) := List.getElem?_eq_getElem _
  exact ⟨b, off, _, e, hb, hx, hc i _ hx⟩
theorem TmsAt.below {l : List Tm} (h : TmsAt w B A n l) (hb : Below B w w') : TmsAt w' B A n l := ⟨h.1, fun hn => by
  obtain ⟨b, off, e, hlt, hc⟩ := h.2 hn
  exact ⟨b, off, e, hlt, fun i x hx => (hc i x hx).below hlt hb⟩⟩
theorem TmsAt.more {l : List Tm} (h : TmsAt w B A n l) (hB : B ≤ B') : TmsAt w B' A n l := ⟨h.1, fun hn => by
  obtain ⟨b, off, e, hlt, hc⟩ := h.2 hn
  exact ⟨b, off, e, by omega, hc⟩⟩
theorem TmsAt.next {l : List Tm} (h : TmsAt w w.heap.size A n l) (hb : Below w.heap.size w w') : TmsAt w' w'.heap.size A n l := (h.below hb).more hb.size
theorem TmsAt.len {l : List Tm} (h : TmsAt w B A n l) : l.length = n := h.1.1
end
def tCs : List Tm → List Value
  | [] => []
  | t :: l => .int .i64 t.x :: .int .i64 t.n :: .int .i64 t.f :: .int .i64 t.l :: tCs l
theorem tCs_len (l : List Tm) : (tCs l).length = l.length * 4 := by
  induction l with
  | nil => rfl
  | cons x t ih => simp only [tCs, List.length_cons, ih]; omega
theorem tCs_app (l m : List Tm) : tCs (l ++ m) = tCs l ++ tCs m := by
  induction l with
  | nil => rfl
  | cons x t ih => simp only [List.cons_append, tCs, ih]
theorem tCs_one (l : List Tm) : ∀ u ∈ tCs l, u.oneCell' = true := by
  induction l with
  | nil => intro u hu; simp [tCs] at hu
  | cons x l ih =>
    intro u hu
    simp only [tCs, List.mem_cons] at hu
    rcases hu with rfl | rfl | rfl | rfl | hu
    all_goals first | rfl | exact ih u hu
theorem tCs_at {l : List Tm} {i : Nat} {x : Tm} (h : l[i]? = some x) :
    (tCs l)[i * 4]? = some (.int .i64 x.x) ∧ (tCs l)[i * 4 + 1]? = some (.int .i64 x.n) ∧ (tCs l)[i * 4 + 2]? = some (.int .i64 x.f) ∧ (tCs l)[i * 4 + 3]? = some (.int .i64 x.l) := by
  induction l generalizing i with
  | nil => simp at h
  | cons y t ih =>
    cases i with
    | zero => simp at h; subst h; simp [tCs]
    | succ i =>
      simp at h
      have := ih h
      rw [show (i + 1) * 4 = i * 4 + 1 + 1 + 1 + 1 by omega]
      simpa [tCs] using this
theorem own_tms {w : World} {base n c : Nat} {A : Option Addr} {l : List Tm} (h : w.ownsRow base 50 4 (.slice A n c) n (tCs l)) (hn : n ≤ 1000000) : TmsAt w w.heap.size A n l := by
  have hl := h.1
  rw [tCs_len] at hl
  refine ⟨⟨by omega, by omega⟩, fun h0 => ?_⟩
  rcases h.2 with ⟨_, h1⟩ | ⟨g, cap, cur, hv, _, hh, _⟩
  · omega
  · injection hv with e1 _ e3
    subst e1 e3
    refine ⟨g, 0, rfl, (Array.getElem?_eq_some_iff.1 hh).1, fun i x hx => ?_⟩
    obtain ⟨a0, a1, a2, a3⟩ := tCs_at hx
    have hlt := (List.getElem?_eq_some_iff.1 hx).1
    have hc : ∀ j u, (tCs l)[j]? = some u → w.cell? ⟨g, j, none⟩ = some u := fun j u hj =>
      (h.cellAt j (by have := (List.getElem?_eq_some_iff.1 hj).1; rw [tCs_len] at this; omega)).trans hj
    simp only [TCells, Nat.zero_add]
    exact ⟨hc _ _ a0, hc _ _ a1, hc _ _ a2, hc _ _ a3⟩

set_option maxHeartbeats 400000 in
theorem among_any (A : Option Addr) (n c : Nat) (l : List Int) (x : Int) (w : World) (ha : IntsAt w w.heap.size A n l) :
    Calls Try.prog 49 #[.slice A n c, .int .i64 x] w fun e w' => e = .returned (.bool (l.contains x)) ∧ w = w' := by
  have hn := ha.1.2
  have HA := Lib.hid ha
  clear ha
  go_enter Try.func49, Try.ntmps49
  go_wp2
  go_loop [5] (fun i => ∃ k : Nat, k ≤ n ∧ i = .int .i64 k ∧ Hid (∀ (j : Nat) z, j < k → l[j]? = some z → z ≠ x)) (fun i => n - (intOf i).toNat)
  case atStart => exact ⟨0, by omega, rfl, Lib.hid fun j z h => absurd h (by omega)⟩
  case round =>
    obtain ⟨k, hk, rfl, HP⟩ := hrel
    by_cases hlt : k < n
    · obtain ⟨b, off, z, rfl, hb, hx, hc⟩ := HA.out.at hlt
      have HX := Lib.hid hx
      clear hx
      by_cases hzx : z = x
      · subst hzx
        go_wp2
        go_ret
        exact ⟨ret_bool (by have := con_yes HX.out; simpa using this), rfl⟩
      · have hb : (z == x) = false := by simpa using hzx
        have HZ := Lib.hid hzx
        clear hzx
        go_wp2
        exact ⟨⟨k + 1, by omega, by go_num, Lib.hid fun j y hj hy => by
          rcases Nat.lt_or_ge j k with h | h
          · exact HP.out j y h hy
          · rw [show j = k by omega, HX.out] at hy
            injection hy with hy
            rw [← hy]; exact HZ.out⟩, by simp [intOf]; omega⟩
    · have HQ := Lib.hid (con_no (l := l) (x := x) fun j z hz => HP.out j z (by have := (List.getElem?_eq_some_iff.1 hz).1; have := HA.out.1.1; omega) hz)
      go_wp2
      go_ret
      exact ⟨ret_bool (by have := HQ.out; simpa using this), rfl⟩
set_option maxHeartbeats 400000 in
theorem tused_any (t : Tm) (k : Nat) (A : Option Addr) (n c : Nat) (wr : List Int) (w : World) (ha : IntsAt w w.heap.size A n wr) :
    Calls Try.prog 34 #[t.v, .int .i64 k, .slice A n c] w fun e w' => e = .returned (.bool (t.used k wr)) ∧ Below w.heap.size w w' := by
  have HA := Lib.hid ha
  clear ha
  go_enter Try.func34, Try.ntmps34
  go_upto_region 1 with (fail)
  have HB := Lib.hid (Blk.new w 50 #[.int .i64 t.x, .int .i64 t.n, .int .i64 t.f, .int .i64 t.l])
  have HW := Lib.hid (bAlloc w (.cells #[.int .i64 t.x, .int .i64 t.n, .int .i64 t.f, .int .i64 t.l] 50))
  have HA1 := Lib.hid (HA.out.next HW.out)
  generalize hW1 : w.alloc (.cells #[.int .i64 t.x, .int .i64 t.n, .int .i64 t.f, .int .i64 t.l] 50) = W0 at HB HW HA1 ⊢
  clear hW1
  have c0 := HB.out.cell 0
  have c2 := HB.out.cell 2
  have c3 := HB.out.cell 3
  simp at c0 c2 c3
  by_cases h1 : t.f ≤ k
  · have d1 : decide (t.f ≤ k) = true := by simpa using h1
    by_cases h2 : k < t.l
    · have d2 : decide (k < t.l) = true := by simpa using h2
      have HE : Hid (t.used k wr = true) := Lib.hid (by unfold Tm.used; simp [h1, h2])
      clear h1 h2
      go_wp2_with fail
      go_ret
      exact ⟨ret_bool HE.out.symm, HW.out⟩
    · have d2 : decide (k < t.l) = false := by simpa using h2
      have HE : Hid (t.used k wr = wr.contains t.x) := Lib.hid (by unfold Tm.used; simp [h1, h2])
      clear h1 h2
      go_wp2_with fail
      refine (among_any A n c wr t.x W0 HA1.out).mono ?_
      rintro e w2 ⟨rfl, rfl⟩
      go_wp2_with fail
      go_ret
      exact ⟨ret_bool (by have := HE.out.symm; simpa using this), HW.out⟩
  · have d1 : decide (t.f ≤ k) = false := by simpa using h1
    have HE : Hid (t.used k wr = false) := Lib.hid (by unfold Tm.used; simp [h1])
    clear h1
    go_wp2_with fail
    go_ret
    exact ⟨ret_bool HE.out.symm, HW.out⟩
theorem nm_cons (t : Tm) (l : List Tm) (x : Int) : nm (t :: l) x = if t.x = x then t.n else nm l x := by
  unfold nm num?
  rw [List.find?_cons]
  split
  · rename_i h; rw [if_pos (by simpa using h)]; rfl
  · rename_i h; rw [if_neg (by simpa using h)]
theorem nm_drop {l : List Tm} {k : Nat} {t : Tm} (h : l[k]? = some t) (x : Int) : nm (l.drop k) x = if t.x = x then t.n else nm (l.drop (k + 1)) x := by
  obtain ⟨hk, e⟩ := List.getElem?_eq_some_iff.1 h
  rw [List.drop_eq_getElem_cons hk, e, nm_cons]
set_option maxHeartbeats 400000 in
theorem number_any (A : Option Addr) (n c : Nat) (l : List Tm) (x : Int) (w : World) (ha : TmsAt w w.heap.size A n l) :
    Calls Try.prog 32 #[.slice A n c, .int .i64 x] w fun e w' => e = .returned (.int .i64 (nm l x)) ∧ w = w' := by
  have hn := ha.1.2
  have HA := Lib.hid ha
  clear ha
  go_enter Try.func32, Try.ntmps32
  go_wp2
  go_loop [5] (fun i => ∃ k : Nat, k ≤ n ∧ i = .int .i64 k ∧ Hid (nm l x = nm (l.drop k) x)) (fun i => n - (intOf i).toNat)
  case atStart => exact ⟨0, by omega, rfl, Lib.hid rfl⟩
  case round =>
    obtain ⟨k, hk, rfl, HP⟩ := hrel
    by_cases hlt : k < n
    · obtain ⟨b, off, z, rfl, hb, hx, hc⟩ := HA.out.at hlt
      obtain ⟨c0, c1, _, _⟩ := hc
      have HX := Lib.hid (nm_drop hx x)
      clear hx
      by_cases hzx : z.x = x
      · have hb2 : (z.x == x) = true := by simpa using hzx
        have HE : Hid (nm l x = z.n) := Lib.hid (by rw [HP.out, HX.out, if_pos hzx])
        clear hzx
        go_wp2
        go_ret
        exact ⟨ret_int HE.out.symm, rfl⟩
      · have hb2 : (z.x == x) = false := by simpa using hzx
        have HE : Hid (nm l x = nm (l.drop (k + 1)) x) := Lib.hid (by rw [HP.out, HX.out, if_neg hzx])
        clear hzx
        go_wp2
        exact ⟨⟨k + 1, by omega, by go_num, HE⟩, by simp [intOf]; omega⟩
    · have HE : Hid (nm l x = x) := Lib.hid (by rw [HP.out, List.drop_of_length_le (by have := HA.out.len; omega)]; rfl)
      go_wp2
      go_ret
      exact ⟨ret_int HE.out.symm, rfl⟩
end Go.Proofs.Yteffpeokialeiaa
