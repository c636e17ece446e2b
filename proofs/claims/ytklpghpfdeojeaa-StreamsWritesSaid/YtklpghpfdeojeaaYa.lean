/-
  A call (Act) and what it tells (Told) as one value: actV; a call whose error is 0 leaves a valid state valid.
-/
import Derived.Test.YtklpghpfdeojeaaXe
namespace Go.Proofs.Ytklpghpfdeojeaa
open Go.RowKit

structure A where
  what : Int
  id : Int
  n : Int
  eof : Int
  name : ByteArray
  al : ByteArray
def A.v (x : A) : Value := .agg #[.int .i64 x.what, .int .i64 x.id, .int .i64 x.n, .int .i64 x.eof, .string x.name, .string x.al]
structure T where
  n : Int
  text : ByteArray
  is : Bool
  e : Int
def T.v (t : T) : Value := .agg #[.int .i64 t.n, .string t.text, .bool t.is, .int .i64 t.e]
/-- the fields of a call's answer ahead of Told, by the kind of the call -/
def toldG (r : Except Int (Sm × Int)) : T := ⟨in2 r, .empty, false, errOf r⟩
def toldS (r : Except Int Sm) : T := ⟨0, .empty, false, errOf r⟩
def actV (s : Sm) (x : A) : Sm × T :=
  if x.what = 0 then (sm2 (openV s x.name x.n x.al x.eof), toldG (openV s x.name x.n x.al x.eof)) else
  if x.what = 1 then (smOf (closeV s x.id), toldS (closeV s x.id)) else
  if x.what = 2 then (sm2 (getV s x.id), toldG (getV s x.id)) else
  if x.what = 3 then (sm2 (peekV s x.id), toldG (peekV s x.id)) else
  if x.what = 4 then (s, ⟨0, restV s x.id true, false, errOf (readV s x.id true)⟩) else
  if x.what = 5 then (smOf (skipV s x.id x.n), toldS (skipV s x.id x.n)) else
  if x.what = 6 then (smOf (putV s x.id x.name), toldS (putV s x.id x.name)) else
  if x.what = 7 then (s, ⟨0, .empty, boolOf (atEndV s x.id), errOf (atEndV s x.id)⟩) else
  if x.what = 8 then (smOf (useV s x.id), toldS (useV s x.id)) else
  if x.what = 9 then (s, ⟨(findV s x.al).getD 0, .empty, (findV s x.al).isSome, 0⟩) else
  if x.what = 10 then (s, ⟨0, (textV s x.name).getD .empty, (textV s x.name).isSome, 0⟩) else (s, ⟨0, .empty, false, 0⟩)

theorem ask_ne {s : Sm} {id : Int} {ok : Bool} {e : Int} (h : askV s id ok = .error e) : e ≠ 0 := by
  rcases askV_err h with ⟨rfl, -⟩ | ⟨rfl, -⟩ <;> decide
theorem read_ne {s : Sm} {id : Int} {ok : Bool} {e : Int} (h : readV s id ok = .error e) : e ≠ 0 := by
  unfold readV at h
  cases ha : askV s id ok with
  | error e' => rw [ha] at h; cases h; exact ask_ne ha
  | ok i =>
    rw [ha] at h
    dsimp only at h
    split at h
    · split at h
      · cases h; decide
      · cases h
    · cases h; decide
theorem close_ne {s : Sm} {id : Int} {e : Int} (h : closeV s id = .error e) : e ≠ 0 := by
  unfold closeV at h
  cases ha : askV s id true with
  | error e' => rw [ha] at h; cases h; exact ask_ne ha
  | ok i =>
    rw [ha] at h
    dsimp only at h
    split at h
    · cases h; decide
    · cases h
theorem use_ne {s : Sm} {id : Int} {e : Int} (h : useV s id = .error e) : e ≠ 0 := by
  unfold useV at h
  cases ha : askV s id true with
  | error e' => rw [ha] at h; cases h; exact ask_ne ha
  | ok i =>
    rw [ha] at h
    dsimp only at h
    split at h
    · cases h
    · cases h; decide
theorem skip_ne {s : Sm} {id n : Int} {e : Int} (h : skipV s id n = .error e) : e ≠ 0 := by
  unfold skipV at h
  cases ha : readV s id (decide (0 ≤ n)) with
  | error e' => rw [ha] at h; cases h; exact read_ne ha
  | ok i =>
    rw [ha] at h
    dsimp only at h
    split at h
    · split at h
      · cases h; decide
      · cases h
    · cases h; decide
theorem put_ne {s : Sm} {id : Int} {x : ByteArray} {e : Int} (h : putV s id x = .error e) : e ≠ 0 := by
  unfold putV at h
  cases ha : askV s id (decide ((x.size : Int) ≤ 16384)) with
  | error e' => rw [ha] at h; cases h; exact ask_ne ha
  | ok i =>
    rw [ha] at h
    dsimp only at h
    split at h
    · split at h
      · cases h; decide
      · split at h
        · cases h; decide
        · cases h
    · cases h; decide
theorem get_ne {s : Sm} {id : Int} {e : Int} (h : getV s id = .error e) : e ≠ 0 := by
  unfold getV at h
  cases ha : readV s id true with
  | error e' => rw [ha] at h; cases h; exact read_ne ha
  | ok i =>
    rw [ha] at h
    dsimp only at h
    split at h
    · cases h
    · cases h; decide
theorem peek_ne {s : Sm} {id : Int} {e : Int} (h : peekV s id = .error e) : e ≠ 0 := by
  unfold peekV at h
  cases ha : getV s id with
  | error e' => rw [ha] at h; cases h; exact get_ne ha
  | ok i => rw [ha] at h; cases h
theorem open_ne {s : Sm} {name al : ByteArray} {mode eof : Int} {e : Int} (h : openV s name mode al eof = .error e) : e ≠ 0 := by
  unfold openV at h
  split at h
  · split at h
    · cases h; decide
    · split at h
      · cases h; decide
      · split at h
        · cases h; decide
        · cases h
  · cases h; decide
theorem keepS {r : Except Int Sm} (hn : ∀ e, r = .error e → e ≠ 0) (hv : ∀ t, r = .ok t → validB t = true) (h : errOf r = 0) : validB (smOf r) = true := by
  cases r with
  | error e => exact absurd h (hn e rfl)
  | ok t => exact hv t rfl
theorem keepG {r : Except Int (Sm × Int)} (hn : ∀ e, r = .error e → e ≠ 0) (hv : ∀ t c, r = .ok (t, c) → validB t = true) (h : errOf r = 0) : validB (sm2 r) = true := by
  cases r with
  | error e => exact absurd h (hn e rfl)
  | ok t => exact hv t.1 t.2 rfl
/-- a call that tells no error leaves a valid state valid -/
theorem actV_valid {s : Sm} (hv : validB s = true) (x : A) (h : (actV s x).2.e = 0) : validB (actV s x).1 = true := by
  unfold actV at h ⊢
  split
  · rename_i h0; rw [if_pos h0] at h; exact keepG (fun _ => open_ne) (fun _ _ => open_valid) h
  rename_i h0; rw [if_neg h0] at h
  split
  · rename_i h0; rw [if_pos h0] at h; exact keepS (fun _ => close_ne) (fun _ => close_valid) h
  rename_i h0; rw [if_neg h0] at h
  split
  · rename_i h0; rw [if_pos h0] at h; exact keepG (fun _ => get_ne) (fun _ _ => get_valid) h
  rename_i h0; rw [if_neg h0] at h
  split
  · rename_i h0; rw [if_pos h0] at h; exact keepG (fun _ => peek_ne) (fun _ _ g => (peek_valid g).1) h
  rename_i h0; rw [if_neg h0] at h
  split
  · exact hv
  rename_i h0; rw [if_neg h0] at h
  split
  · rename_i h0; rw [if_pos h0] at h; exact keepS (fun _ => skip_ne) (fun _ => skip_valid) h
  rename_i h0; rw [if_neg h0] at h
  split
  · rename_i h0; rw [if_pos h0] at h; exact keepS (fun _ => put_ne) (fun _ => put_valid) h
  rename_i h0; rw [if_neg h0] at h
  split
  · exact hv
  rename_i h0; rw [if_neg h0] at h
  split
  · rename_i h0; rw [if_pos h0] at h; exact keepS (fun _ => use_ne) (fun _ => use_valid) h
  split
  · exact hv
  split
  · exact hv
  · exact hv
end Go.Proofs.Ytklpghpfdeojeaa
