/-
  Plain: a file that is read character by character.
-/
import Derived.Test.YtklpghpfdeojeaaXe
import Derived.ProofKit
namespace Go.Proofs.Ytklpghpfdeojeaa
open Go.RowKit

@[reducible] def fN : ByteArray := ⟨#[102]⟩
@[reducible] def F3 (t : ByteArray) : List F := [⟨fN, t⟩, emF inS, emF outS]
@[reducible] def S0 (t : ByteArray) : Sm := ⟨F3 t, [gIn, gOut], 0, 1, 2⟩
theorem files3 (t : ByteArray) : newFiles [⟨fN, t⟩] = F3 t := by kernel_rfl
theorem ord_f (t : ByteArray) : orderedB [⟨fN, t⟩] = decide ((t.size : Int) ≤ 16384) := by
  have h : namedB fN = true := by decide +kernel
  unfold orderedB orderedTo
  simp [orderedTo, ordAt, prevOf, h]
theorem new_f (t : ByteArray) : newV [⟨fN, t⟩] = if t.size ≤ 16384 then .ok (S0 t) else .error 1 := by
  by_cases h : t.size ≤ 16384
  · rw [newV_go (by rw [ord_f]; simp; omega), files3, if_neg (by simp), if_pos h]
    show Except.ok (newS [⟨fN, t⟩]) = _
    unfold newS
    rw [files3]
  · rw [newV_bad (by rw [ord_f]; simp; omega), if_neg h]
theorem valid_S0 {t : ByteArray} (h : t.size ≤ 16384) : validB (S0 t) = true := by
  have h1 := new_valid (l := [⟨fN, t⟩]) (by rw [ord_f]; simp; omega) (by rw [files3]; simp)
  unfold newS at h1
  rw [files3] at h1
  exact h1
theorem idx_f (t : ByteArray) : idxI (F3 t) (fileP fN) = 0 := by kernel_rfl

/-- the state while the file is read -/
@[reducible] def rdX (eof pos : Int) (past : Bool) : G := ⟨2, fN, 1, pos, ⟨#[]⟩, eof, past⟩
@[reducible] def Rd (t : ByteArray) (eof pos : Int) (past : Bool) : Sm := ⟨F3 t, [gIn, gOut, rdX eof pos past], 0, 1, 3⟩
theorem open_rd (t : ByteArray) (eof : Int) (ht : t.size ≤ 16384) : openV (S0 t) fN 1 ⟨#[]⟩ eof = if kindB eof then .ok (Rd t eof 0 false, 2) else .error 1 := by
  have h1 : namedB fN = true := by decide +kernel
  have h2 : idxI (S0 t).opn (apP (openX (S0 t) fN 1 ⟨#[]⟩ eof)) = -1 := by kernel_rfl
  have h4 : openF (F3 t) fN 1 = F3 t := openF_keep (by rw [idx_f]; omega) rfl
  cases hk : kindB eof
  · rw [openV_arg (by unfold openArg; rw [hk]; simp)]
    rfl
  · rw [openV_go (by unfold openArg; rw [valid_S0 ht, h1, hk]; rfl)]
    show (if decide (idxI (F3 t) (fileP fN) < 0) && (1 : Int) == 1 then Except.error 4 else if 0 ≤ idxI (S0 t).opn (apP (openX (S0 t) fN 1 ⟨#[]⟩ eof)) then Except.error 5 else if openFull (S0 t) fN then Except.error 13 else Except.ok (openS (S0 t) fN 1 ⟨#[]⟩ eof, (2 : Int))) = _
    have h3 : openFull (S0 t) fN = false := by
      unfold openFull
      show (decide ((16 : Int) ≤ (2 : Nat)) || (2 : Int) == 1073741824 || (decide (idxI (F3 t) (fileP fN) < 0) && decide ((16 : Int) ≤ (3 : Nat)))) = false
      rw [idx_f]
      rfl
    rw [idx_f, h2, h3]
    show Except.ok (openS (S0 t) fN 1 ⟨#[]⟩ eof, (2 : Int)) = _
    unfold openS
    rw [h4]
    rfl
section
variable {t : ByteArray} {eof pos : Int} {past : Bool}
theorem ask_rd (hv : validB (Rd t eof pos past) = true) : askV (Rd t eof pos past) 2 true = .ok 2 := by
  unfold askV
  rw [hv]
  rfl
theorem at_rd : (Rd t eof pos past).opn[2]? = some (rdX eof pos past) := rfl
theorem read_rd (hv : validB (Rd t eof pos past) = true) : readV (Rd t eof pos past) 2 true = if past && eof == 1 then .error 5 else .ok 2 := by
  unfold readV
  rw [ask_rd hv]
  rfl
theorem file_rd : fileOf (Rd t eof pos past) (rdX eof pos past) = ⟨fN, t⟩ := by
  unfold fileOf
  show (match (F3 t)[(idxI (F3 t) (fileP fN)).toNat]? with | some f => f | none => ⟨.empty, .empty⟩) = _
  rw [idx_f]
  rfl
theorem restT_rd : restT (Rd t eof pos past) (rdX eof pos past) = t.extract pos.toNat t.size := by
  unfold restT
  rw [file_rd]
theorem rest_rd (hv : validB (Rd t eof pos past) = true) (hp : (past && eof == 1) = false) : restV (Rd t eof pos past) 2 true = t.extract pos.toNat t.size := by
  unfold restV
  rw [read_rd hv, hp]
  exact restT_rd
theorem atEnd_rd (hv : validB (Rd t eof pos past) = true) : atEndV (Rd t eof pos past) 2 = .ok (pos == t.size) := by
  unfold atEndV
  rw [ask_rd hv]
  show (if (1 : Int) != 1 then Except.error 5 else Except.ok ((rdX eof pos past).pos == (fileOf (Rd t eof pos past) (rdX eof pos past)).text.size)) = _
  rw [file_rd]
  rfl
theorem get_rd (hv : validB (Rd t eof pos past) = true) (hp : (past && eof == 1) = false) :
    getV (Rd t eof pos past) 2 = .ok (⟨F3 t, [gIn, gOut, getG (getC (t.extract pos.toNat t.size)) (rdX eof pos past)], 0, 1, 3⟩, getC (t.extract pos.toNat t.size)) := by
  unfold getV
  rw [read_rd hv, hp]
  show Except.ok (({ Rd t eof pos past with opn := (Rd t eof pos past).opn.set 2 (getG (getC (restT (Rd t eof pos past) (rdX eof pos past))) (rdX eof pos past)) } : Sm), getC (restT (Rd t eof pos past) (rdX eof pos past))) = _
  rw [restT_rd]
  rfl
end
/-- the character at a place, or -1 -/
def wantC (t : ByteArray) (i : Nat) : Int := if h : i < t.size then (t[i].toNat : Int) else -1
theorem get_extract (t : ByteArray) (i : Nat) : getC (t.extract i t.size) = wantC t i := by
  unfold getC wantC
  have hs : (t.extract i t.size).size = t.size - i := by rw [ByteArray.size_extract]; omega
  by_cases h : i < t.size
  · rw [dif_pos (by omega), dif_pos h]
    have : (t.extract i t.size)[0]'(by omega) = t[i] := by rw [ByteArray.getElem_extract]; simp
    rw [this]
  · rw [dif_neg (by omega), dif_neg h]
/-- the state before call number i -/
@[reducible] def RdN (t : ByteArray) (eof : Int) (i : Nat) : Sm := Rd t eof (min i t.size : Nat) (decide (t.size < i) && !(eof == 3))
theorem next_rd {t : ByteArray} {eof : Int} {i : Nat} (hv : validB (RdN t eof i) = true) (hi : i ≤ t.size) :
    getV (RdN t eof i) 2 = .ok (RdN t eof (i + 1), wantC t i) ∧ atEndV (RdN t eof i) 2 = .ok (decide (i = t.size)) ∧ restV (RdN t eof i) 2 true = t.extract i t.size ∧ errOf (readV (RdN t eof i) 2 true) = 0 ∧
      peekV (RdN t eof i) 2 = .ok (RdN t eof i, wantC t i) ∧ validB (RdN t eof (i + 1)) = true := by
  have hm : min i t.size = i := by omega
  have hd : decide (t.size < i) = false := by simp; omega
  have hp : ((decide (t.size < i) && !(eof == 3)) && eof == 1) = false := by rw [hd]; rfl
  have hg : getV (RdN t eof i) 2 = .ok (RdN t eof (i + 1), wantC t i) := by
    rw [get_rd hv hp]
    rw [hm, hd]
    show Except.ok ((⟨F3 t, [gIn, gOut, getG (getC (t.extract i t.size)) (rdX eof (i : Int) false)], 0, 1, 3⟩ : Sm), getC (t.extract i t.size)) = _
    rw [get_extract]
    by_cases h : i < t.size
    · have hw : 0 ≤ wantC t i := by unfold wantC; rw [dif_pos h]; omega
      have h2 : min (i + 1) t.size = i + 1 := by omega
      have h3 : decide (t.size < i + 1) = false := by simp; omega
      unfold getG RdN
      rw [if_pos hw, h2, h3]
      simp
    · have hw : ¬ 0 ≤ wantC t i := by unfold wantC; rw [dif_neg h]; omega
      have h2 : min (i + 1) t.size = i := by omega
      have h3 : decide (t.size < i + 1) = true := by simp; omega
      unfold getG RdN
      rw [if_neg hw, h2, h3]
      simp
  refine ⟨hg, ?_, ?_, ?_, ?_, get_valid hg⟩
  · rw [atEnd_rd hv, hm]
    by_cases h : i = t.size
    · simp [h]
    · simp [h]
      omega
  · rw [rest_rd hv hp, hm]
    rfl
  · rw [read_rd hv, hp]
    rfl
  · unfold peekV
    rw [hg]
theorem last_rd {t : ByteArray} {eof : Int} (hv : validB (RdN t eof (t.size + 1)) = true) :
    (eof = 1 → getV (RdN t eof (t.size + 1)) 2 = .error 5 ∧ errOf (readV (RdN t eof (t.size + 1)) 2 true) = 5) ∧
    (eof ≠ 1 → ∃ u, getV (RdN t eof (t.size + 1)) 2 = .ok (u, -1) ∧ validB u = true ∧ errOf (readV (RdN t eof (t.size + 1)) 2 true) = 0) := by
  have hd : decide (t.size < t.size + 1) = true := by simp
  have hm : min (t.size + 1) t.size = t.size := by omega
  constructor
  · rintro rfl
    have hr := read_rd hv
    have hr' : readV (RdN t 1 (t.size + 1)) 2 true = .error 5 := by rw [hr, if_pos (by simp)]
    refine ⟨?_, by rw [hr']; rfl⟩
    unfold getV
    rw [hr']
  · intro he
    have hp : ((decide (t.size < t.size + 1) && !(eof == 3)) && eof == 1) = false := by simp [he]
    have hg := get_rd hv hp
    have h0 : getC (t.extract ((min (t.size + 1) t.size : Nat) : Int).toNat t.size) = -1 := by
      have := get_extract t t.size
      rw [hm, Int.toNat_natCast, this]
      unfold wantC
      rw [dif_neg (by omega)]
    rw [h0] at hg
    refine ⟨_, hg, get_valid hg, ?_⟩
    rw [read_rd hv, hp]
    rfl
end Go.Proofs.Ytklpghpfdeojeaa
