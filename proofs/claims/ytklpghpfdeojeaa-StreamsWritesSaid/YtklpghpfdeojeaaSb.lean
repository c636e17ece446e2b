/-
  Walks: small functions; the search of files and of streams, both.
-/
import Derived.Test.YtklpghpfdeojeaaSa
import Derived.Test.YtklpghpfdeojeaaChecked
namespace Go.Proofs.Ytklpghpfdeojeaa
open Go.RowKit

def namedB (s : ByteArray) : Bool := decide (1 ≤ (s.size : Int)) && decide ((s.size : Int) ≤ 100)
theorem named_any (s : ByteArray) (w : World) : Calls Try.prog 40 #[.string s] w fun e w' => e = .returned (.bool (namedB s)) ∧ w = w' := by
  go_enter Try.func40, Try.ntmps40
  go_wp2
  all_goals go_ret
  all_goals refine ⟨ret_bool ?_, rfl⟩
  all_goals first | (simp [namedB, *]; done) | (simp [namedB, *]; omega)
theorem isName_any (s : ByteArray) (w : World) : Calls Try.prog 71 #[.string s] w fun e w' => e = .returned (.bool (namedB s)) ∧ w = w' := by
  go_enter Try.func71, Try.ntmps71
  go_wp2
  all_goals go_ret
  all_goals refine ⟨ret_bool ?_, rfl⟩
  all_goals first | (simp [namedB, *]; done) | (simp [namedB, *]; omega)
def kindB (n : Int) : Bool := decide (1 ≤ n) && decide (n ≤ 3)
theorem kind_any (n : Int) (w : World) : Calls Try.prog 41 #[.int .i64 n] w fun e w' => e = .returned (.bool (kindB n)) ∧ w = w' := by
  go_enter Try.func41, Try.ntmps41
  go_wp2
  all_goals go_ret
  all_goals refine ⟨ret_bool ?_, rfl⟩
  all_goals first | (simp [kindB, *]; done) | (simp [kindB, *]; omega)

theorem file1_any (x : F) (b : Nat) (name : ByteArray) (w : World) (hc : w.cell? ⟨b, 0, none⟩ = some (.string name)) (hb : b < w.heap.size) :
    Calls Try.prog 69 #[x.v, .pointer (some ⟨b, 0, none⟩)] w fun e w' => e = .returned (.bool (fileP name x)) ∧ Below w.heap.size w w' := by
  go_enter Try.func69, Try.ntmps69
  go_wp2
  go_ret
  exact ⟨rfl, bAlloc _ _⟩
theorem stream1_any (x : G) (b : Nat) (id : Int) (w : World) (hc : w.cell? ⟨b, 0, none⟩ = some (.int .i64 id)) (hb : b < w.heap.size) :
    Calls Try.prog 72 #[x.v, .pointer (some ⟨b, 0, none⟩)] w fun e w' => e = .returned (.bool (idP id x)) ∧ Below w.heap.size w w' := by
  go_enter Try.func72, Try.ntmps72
  go_wp2
  go_ret
  exact ⟨rfl, bAlloc _ _⟩

set_option maxHeartbeats 400000 in
theorem index69_any (A : Option Addr) (n c : Nat) (l : List F) (bp : Nat) (name : ByteArray) (w : World) (ha : FilesAt w w.heap.size A n l) (hbp : bp < w.heap.size) (hc0 : w.cell? ⟨bp, 0, none⟩ = some (.string name)) :
    Calls Try.prog 68 #[.slice A n c, .func (.func 69) #[] #[.pointer (some ⟨bp, 0, none⟩)]] w fun e w' => e = .returned (.int .i64 (idxI l (fileP name))) ∧ Below w.heap.size w w' := by
  have hn := ha.1.2
  have HA := Lib.hid ha
  have HC0 := Lib.hid hc0
  clear ha hc0
  go_enter Try.func68, Try.ntmps68
  go_wp2
  go_loopw [9] (fun i wr => ∃ k : Nat, k ≤ n ∧ i = .int .i64 k ∧ Hid (∀ (j : Nat) z, j < k → l[j]? = some z → (fileP name) z = false) ∧ Hid (Below w.heap.size w wr)) (fun i _ => n - (intOf i).toNat)
  case atStart => exact ⟨0, by omega, rfl, Lib.hid fun j z h => absurd h (by omega), Below.refl _ _⟩
  case round =>
    obtain ⟨k, hk, rfl, HP, HB⟩ := hrel
    have hz := HB.out.size
    by_cases hlt : k < n
    · obtain ⟨b, off, x, rfl, hb, hx, hx4⟩ := HA.out.at hlt
      obtain ⟨q0, q1⟩ := hx4.below hb HB.out
      have HX := Lib.hid hx
      have HN := Lib.hid (HB.out.alloc hz (.cells #[.string x.name, .string x.text] 35))
      clear hx hx4
      go_wp2_with fail
      refine (file1_any _ bp name _ ((HN.out.cell (p := ⟨bp, 0, none⟩) hbp).trans HC0.out) (by simp; omega)).mono ?_
      rintro e w2 ⟨rfl, hb2⟩
      have HB2 := Lib.hid (bNext HN.out hb2)
      clear hb2
      cases hpx : (fileP name) x
      · have HQ := Lib.hid hpx
        clear hpx
        go_wp2_with fail
        exact ⟨⟨k + 1, by omega, by go_num, Lib.hid fun j z hj hz => by
          rcases Nat.lt_or_ge j k with h | h
          · exact HP.out j z h hz
          · rw [show j = k by omega, HX.out] at hz
            injection hz with hz
            rw [← hz]; exact HQ.out, HB2.out⟩, by simp [intOf]; omega⟩
      · have HQ := Lib.hid (idxI_yes HX.out hpx HP.out)
        clear hpx
        go_wp2_with fail
        go_ret
        exact ⟨ret_int HQ.out.symm, HB2.out⟩
    · have HQ := Lib.hid (idxI_no (l := l) (p := fileP name) fun j z hz => HP.out j z (by have := (List.getElem?_eq_some_iff.1 hz).1; have := HA.out.1.1; omega) hz)
      go_wp2_with fail
      go_ret
      exact ⟨ret_int HQ.out.symm, HB.out⟩

set_option maxHeartbeats 400000 in
theorem index72_any (A : Option Addr) (n c : Nat) (l : List G) (bp : Nat) (id : Int) (w : World) (ha : OpensAt w w.heap.size A n l) (hbp : bp < w.heap.size) (hc0 : w.cell? ⟨bp, 0, none⟩ = some (.int .i64 id)) :
    Calls Try.prog 42 #[.slice A n c, .func (.func 72) #[] #[.pointer (some ⟨bp, 0, none⟩)]] w fun e w' => e = .returned (.int .i64 (idxI l (idP id))) ∧ Below w.heap.size w w' := by
  have hn := ha.1.2
  have HA := Lib.hid ha
  have HC0 := Lib.hid hc0
  clear ha hc0
  go_enter Try.func42, Try.ntmps42
  go_wp2
  go_loopw [9] (fun i wr => ∃ k : Nat, k ≤ n ∧ i = .int .i64 k ∧ Hid (∀ (j : Nat) z, j < k → l[j]? = some z → (idP id) z = false) ∧ Hid (Below w.heap.size w wr)) (fun i _ => n - (intOf i).toNat)
  case atStart => exact ⟨0, by omega, rfl, Lib.hid fun j z h => absurd h (by omega), Below.refl _ _⟩
  case round =>
    obtain ⟨k, hk, rfl, HP, HB⟩ := hrel
    have hz := HB.out.size
    by_cases hlt : k < n
    · obtain ⟨b, off, x, rfl, hb, hx, hx4⟩ := HA.out.at hlt
      obtain ⟨q0, q1, q2, q3, q4, q5, q6⟩ := hx4.below hb HB.out
      have HX := Lib.hid hx
      have HN := Lib.hid (HB.out.alloc hz (.cells #[.int .i64 x.id, .string x.file, .int .i64 x.mode, .int .i64 x.pos, .string x.alias_, .int .i64 x.eof, .bool x.past] 52))
      clear hx hx4
      go_wp2_with fail
      refine (stream1_any _ bp id _ ((HN.out.cell (p := ⟨bp, 0, none⟩) hbp).trans HC0.out) (by simp; omega)).mono ?_
      rintro e w2 ⟨rfl, hb2⟩
      have HB2 := Lib.hid (bNext HN.out hb2)
      clear hb2
      cases hpx : (idP id) x
      · have HQ := Lib.hid hpx
        clear hpx
        go_wp2_with fail
        exact ⟨⟨k + 1, by omega, by go_num, Lib.hid fun j z hj hz => by
          rcases Nat.lt_or_ge j k with h | h
          · exact HP.out j z h hz
          · rw [show j = k by omega, HX.out] at hz
            injection hz with hz
            rw [← hz]; exact HQ.out, HB2.out⟩, by simp [intOf]; omega⟩
      · have HQ := Lib.hid (idxI_yes HX.out hpx HP.out)
        clear hpx
        go_wp2_with fail
        go_ret
        exact ⟨ret_int HQ.out.symm, HB2.out⟩
    · have HQ := Lib.hid (idxI_no (l := l) (p := idP id) fun j z hz => HP.out j z (by have := (List.getElem?_eq_some_iff.1 hz).1; have := HA.out.1.1; omega) hz)
      go_wp2_with fail
      go_ret
      exact ⟨ret_int HQ.out.symm, HB.out⟩

theorem file_any (v : Value) (s : Sm) (name : ByteArray) (w : World) (ha : SmAt w w.heap.size v s) :
    Calls Try.prog 30 #[v, .string name] w fun e w' => e = .returned (.int .i64 (idxI s.files (fileP name))) ∧ Below w.heap.size w w' := by
  obtain ⟨A0, c0, A1, c1, rfl, -, h0, h1⟩ := ha
  have HA := Lib.hid h0
  clear h0 h1
  go_enter Try.func30, Try.ntmps30
  go_wp2_with fail
  have hb : Below w.heap.size w ((w.alloc (.cells #[.slice A0 s.files.length c0, .slice A1 s.opn.length c1, .int .i64 s.inp, .int .i64 s.out, .int .i64 s.nxt] 25)).alloc (.cells #[.string name] 9)) := (bAlloc _ _).alloc (by simp) _
  have hk : Blk ((w.alloc (.cells #[.slice A0 s.files.length c0, .slice A1 s.opn.length c1, .int .i64 s.inp, .int .i64 s.out, .int .i64 s.nxt] 25)).alloc (.cells #[.string name] 9)) (w.heap.size + 1) 9 #[.string name] := by
    have h := Blk.new (w.alloc (.cells #[.slice A0 s.files.length c0, .slice A1 s.opn.length c1, .int .i64 s.inp, .int .i64 s.out, .int .i64 s.nxt] 25)) 9 #[.string name]
    rwa [World.size_alloc] at h
  refine (index69_any A0 s.files.length c0 s.files (w.heap.size + 1) name _ (HA.out.next hb) hk.lt (hk.cell 0)).mono ?_
  rintro e w1 ⟨rfl, hb1⟩
  have HB := Lib.hid (bNext hb hb1)
  clear hb hk hb1
  go_wp2_with fail
  go_ret
  exact ⟨rfl, HB.out⟩
theorem stream_any (v : Value) (s : Sm) (id : Int) (w : World) (ha : SmAt w w.heap.size v s) :
    Calls Try.prog 39 #[v, .int .i64 id] w fun e w' => e = .returned (.int .i64 (idxI s.opn (idP id))) ∧ Below w.heap.size w w' := by
  obtain ⟨A0, c0, A1, c1, rfl, -, h0, h1⟩ := ha
  have HA := Lib.hid h1
  clear h0 h1
  go_enter Try.func39, Try.ntmps39
  go_wp2_with fail
  have hb : Below w.heap.size w ((w.alloc (.cells #[.slice A0 s.files.length c0, .slice A1 s.opn.length c1, .int .i64 s.inp, .int .i64 s.out, .int .i64 s.nxt] 25)).alloc (.cells #[.int .i64 id] 3)) := (bAlloc _ _).alloc (by simp) _
  have hk : Blk ((w.alloc (.cells #[.slice A0 s.files.length c0, .slice A1 s.opn.length c1, .int .i64 s.inp, .int .i64 s.out, .int .i64 s.nxt] 25)).alloc (.cells #[.int .i64 id] 3)) (w.heap.size + 1) 3 #[.int .i64 id] := by
    have h := Blk.new (w.alloc (.cells #[.slice A0 s.files.length c0, .slice A1 s.opn.length c1, .int .i64 s.inp, .int .i64 s.out, .int .i64 s.nxt] 25)) 3 #[.int .i64 id]
    rwa [World.size_alloc] at h
  refine (index72_any A1 s.opn.length c1 s.opn (w.heap.size + 1) id _ (HA.out.next hb) hk.lt (hk.cell 0)).mono ?_
  rintro e w1 ⟨rfl, hb1⟩
  have HB := Lib.hid (bNext hb hb1)
  clear hb hk hb1
  go_wp2_with fail
  go_ret
  exact ⟨rfl, HB.out⟩

set_option maxHeartbeats 400000 in
theorem rfile_any (A : Option Addr) (n c : Nat) (l : List F) (name : ByteArray) (w : World) (ha : FilesAt w w.heap.size A n l) :
    Calls Try.prog 33 #[.slice A n c, .string name] w fun e w' => e = .returned (.int .i64 (idxI l (fileP name))) ∧ w = w' := by
  have hn := ha.1.2
  have hl := ha.1.1
  go_enter Try.func33, Try.ntmps33
  go_wp2
  go_loop [5] (fun i => ∃ k : Nat, k ≤ n ∧ i = .int .i64 k ∧ Hid (∀ (j : Nat) z, j < k → l[j]? = some z → fileP name z = false)) (fun i => n - (intOf i).toNat)
  case atStart => exact ⟨0, by omega, rfl, Lib.hid fun j z h => absurd h (by omega)⟩
  case round =>
    obtain ⟨k, hk, rfl, HP⟩ := hrel
    by_cases hlt : k < n
    · obtain ⟨b, off, x, rfl, hb, hx, q0, q1⟩ := ha.at hlt
      have HX := Lib.hid hx
      clear hx ha
      cases hpx : x.name.toList == name.toList
      · have HQ := Lib.hid hpx
        go_wp2_with fail
        exact ⟨⟨k + 1, by omega, by go_num, Lib.hid fun j z hj hz => by
          rcases Nat.lt_or_ge j k with h | h
          · exact HP.out j z h hz
          · rw [show j = k by omega, HX.out] at hz
            injection hz with hz
            rw [← hz]; exact HQ.out⟩, by simp [intOf]; omega⟩
      · have HQ := Lib.hid (idxI_yes HX.out (p := fileP name) hpx HP.out)
        go_wp2_with fail
        go_ret
        exact ⟨ret_int HQ.out.symm, rfl⟩
    · have HQ := Lib.hid (idxI_no (l := l) (p := fileP name) fun j z hz => HP.out j z (by have := (List.getElem?_eq_some_iff.1 hz).1; omega) hz)
      go_wp2_with fail
      go_ret
      exact ⟨ret_int HQ.out.symm, rfl⟩

set_option maxHeartbeats 400000 in
theorem rstream_any (v : Value) (s : Sm) (id : Int) (w : World) (hs : SmAt w w.heap.size v s) :
    Calls Try.prog 67 #[v, .int .i64 id] w fun e w' => e = .returned (.int .i64 (idxI s.opn (idP id))) ∧ Below w.heap.size w w' := by
  obtain ⟨A0, c0, A1, c1, rfl, -, h0, ha⟩ := hs
  have hn := ha.1.2
  have HB := Lib.hid (bAlloc w (.cells #[.slice A0 s.files.length c0, .slice A1 s.opn.length c1, .int .i64 s.inp, .int .i64 s.out, .int .i64 s.nxt] 25))
  clear h0
  go_enter Try.func67, Try.ntmps67
  go_wp2
  go_loop [5] (fun i => ∃ k : Nat, k ≤ s.opn.length ∧ i = .int .i64 k ∧ Hid (∀ (j : Nat) z, j < k → s.opn[j]? = some z → idP id z = false)) (fun i => s.opn.length - (intOf i).toNat)
  case atStart => exact ⟨0, by omega, rfl, Lib.hid fun j z h => absurd h (by omega)⟩
  case round =>
    obtain ⟨k, hk, rfl, HP⟩ := hrel
    by_cases hlt : k < s.opn.length
    · obtain ⟨b, off, x, rfl, hb, hx, hx4⟩ := ha.at hlt
      obtain ⟨q0, q1, q2, q3, q4, q5, q6⟩ := hx4.below hb HB.out
      have HX := Lib.hid hx
      clear hx ha hx4
      cases hpx : x.id == id
      · have HQ := Lib.hid hpx
        go_wp2_with fail
        exact ⟨⟨k + 1, by omega, by go_num, Lib.hid fun j z hj hz => by
          rcases Nat.lt_or_ge j k with h | h
          · exact HP.out j z h hz
          · rw [show j = k by omega, HX.out] at hz
            injection hz with hz
            rw [← hz]; exact HQ.out⟩, by simp [intOf]; omega⟩
      · have HQ := Lib.hid (idxI_yes HX.out (p := idP id) hpx HP.out)
        go_wp2_with fail
        go_ret
        exact ⟨ret_int HQ.out.symm, HB.out⟩
    · have HQ := Lib.hid (idxI_no (l := s.opn) (p := idP id) fun j z hz => HP.out j z (by have := (List.getElem?_eq_some_iff.1 hz).1; omega) hz)
      go_wp2_with fail
      go_ret
      exact ⟨ret_int HQ.out.symm, HB.out⟩
end Go.Proofs.Ytklpghpfdeojeaa
