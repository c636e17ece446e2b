/-
  Plain: valid segments.
-/
import Derived.Test.YteffpeokialeiaaAn
namespace Go.Proofs.Yteffpeokialeiaa
open Go.RowKit

/-- is an instruction out of form, or a call of too many registers? -/
def badB (x : In) (base : Int) : Bool := !fo x || ((x.op == 19 || x.op == 20) && decide (base < x.ar))
def readB (x : In) (base : Int) (seen : List Int) : Bool := (rdOf x).all fun r => !(decide (base < r) && !seen.contains r)
def vl (base : Int) : List In → List Int → Bool
  | [], _ => true
  | x :: t, seen => !badB x base && (readB x base seen && vl base t (seen ++ wrOf x))
def validP (l : List In) (base : Int) : Bool := (decide (0 ≤ base) && decide (base ≤ 4096)) && vl base l []
def seenOf (l : List In) : List Int := l.flatMap wrOf
theorem vl_drop (base : Int) : ∀ (l : List In) (s : List Int) (k : Nat) (x : In), l[k]? = some x →
    vl base (l.drop k) s = (!badB x base && (readB x base s && vl base (l.drop (k + 1)) (s ++ wrOf x))) := fun l s k x h => by
  obtain ⟨hlt, hx⟩ := List.getElem?_eq_some_iff.1 h
  rw [List.drop_eq_getElem_cons hlt, hx]; rfl
theorem seen_snoc {l : List In} {k : Nat} {x : In} (h : l[k]? = some x) : seenOf (l.take (k + 1)) = seenOf (l.take k) ++ wrOf x := by
  unfold seenOf; rw [List.take_add_one, h]; simp
/-- the map of what was written -/
def seenF (s : List Int) (y : Int) : Option Value := if s.contains y then some (.bool true) else none
theorem seenF_get (s : List Int) (y : Int) : (seenF s y).getD (.bool false) = .bool (s.contains y) := by
  unfold seenF; split <;> simp_all
theorem seenF_snoc (s : List Int) (x y : Int) : (if y = x then some (Value.bool true) else seenF s y) = seenF (s ++ [x]) y := by
  unfold seenF
  by_cases e : y = x
  · simp [e]
  · rw [if_neg e]
    have : (s ++ [x]).contains y = s.contains y := by rw [Bool.eq_iff_iff]; simp [e]
    rw [this]
theorem regs_len (x : In) (s : List UInt8) (h : s.length ≤ 2) : (regsOf x s).length ≤ 8192 := by
  unfold regsOf
  split
  · rename_i hf
    have := reg_len x (fo_ar hf) s []
    simp only [List.length_nil] at this
    omega
  · simp
theorem rd_len (x : In) : (rdOf x).length ≤ 8192 := regs_len x _ (by have := (sh_rw x.op).1.2; simpa using this)
theorem wr_len (x : In) : (wrOf x).length ≤ 8192 := regs_len x _ (by have := (sh_rw x.op).2.2; simpa using this)
end Go.Proofs.Yteffpeokialeiaa
