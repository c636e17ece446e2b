/-
  Plain: well-formed instructions in closed form, an opcode at a time.
-/
import Derived.Test.YteffpeokialeiaaAd
namespace Go.Proofs.Yteffpeokialeiaa
open Go.RowKit

theorem fo1 (r a n : Int) (nm : ByteArray) (ar : Int) : fo ⟨1, r, a, n, nm, ar⟩ = ((true && (rOk r && (aOk a && true))) && sameI ⟨1, r, a, n, nm, ar⟩ ⟨1, r, a, 0, ⟨#[]⟩, 0⟩) := by kernel_rfl
theorem rd1 (r a n : Int) (nm : ByteArray) (ar : Int) : rdOf ⟨1, r, a, n, nm, ar⟩ = if fo ⟨1, r, a, n, nm, ar⟩ then [a] else [] := by kernel_rfl
theorem wr1 (r a n : Int) (nm : ByteArray) (ar : Int) : wrOf ⟨1, r, a, n, nm, ar⟩ = if fo ⟨1, r, a, n, nm, ar⟩ then [r] else [] := by kernel_rfl
theorem fo2 (r a n : Int) (nm : ByteArray) (ar : Int) : fo ⟨2, r, a, n, nm, ar⟩ = ((true && (rOk r && (aOk a && true))) && sameI ⟨2, r, a, n, nm, ar⟩ ⟨2, r, a, 0, ⟨#[]⟩, 0⟩) := by kernel_rfl
theorem rd2 (r a n : Int) (nm : ByteArray) (ar : Int) : rdOf ⟨2, r, a, n, nm, ar⟩ = if fo ⟨2, r, a, n, nm, ar⟩ then (if [r].contains a then [r] else [r, a]) else [] := by kernel_rfl
theorem wr2 (r a n : Int) (nm : ByteArray) (ar : Int) : wrOf ⟨2, r, a, n, nm, ar⟩ = if fo ⟨2, r, a, n, nm, ar⟩ then [] else [] := by kernel_rfl
theorem fo3 (r a n : Int) (nm : ByteArray) (ar : Int) : fo ⟨3, r, a, n, nm, ar⟩ = ((true && (aOk a && (true && true))) && sameI ⟨3, r, a, n, nm, ar⟩ ⟨3, 0, a, n, ⟨#[]⟩, 0⟩) := by kernel_rfl
theorem rd3 (r a n : Int) (nm : ByteArray) (ar : Int) : rdOf ⟨3, r, a, n, nm, ar⟩ = if fo ⟨3, r, a, n, nm, ar⟩ then [a] else [] := by kernel_rfl
theorem wr3 (r a n : Int) (nm : ByteArray) (ar : Int) : wrOf ⟨3, r, a, n, nm, ar⟩ = if fo ⟨3, r, a, n, nm, ar⟩ then [] else [] := by kernel_rfl
theorem fo4 (r a n : Int) (nm : ByteArray) (ar : Int) : fo ⟨4, r, a, n, nm, ar⟩ = ((true && (aOk a && (nmOk nm && true))) && sameI ⟨4, r, a, n, nm, ar⟩ ⟨4, 0, a, 0, nm, 0⟩) := by kernel_rfl
theorem rd4 (r a n : Int) (nm : ByteArray) (ar : Int) : rdOf ⟨4, r, a, n, nm, ar⟩ = if fo ⟨4, r, a, n, nm, ar⟩ then [a] else [] := by kernel_rfl
theorem wr4 (r a n : Int) (nm : ByteArray) (ar : Int) : wrOf ⟨4, r, a, n, nm, ar⟩ = if fo ⟨4, r, a, n, nm, ar⟩ then [] else [] := by kernel_rfl
theorem fo5 (r a n : Int) (nm : ByteArray) (ar : Int) : fo ⟨5, r, a, n, nm, ar⟩ = ((true && (aOk a && ((nmOk nm && (decide (1 ≤ ar) && decide (ar ≤ 8))) && true))) && sameI ⟨5, r, a, n, nm, ar⟩ ⟨5, 0, a, 0, nm, ar⟩) := by kernel_rfl
theorem rd5 (r a n : Int) (nm : ByteArray) (ar : Int) : rdOf ⟨5, r, a, n, nm, ar⟩ = if fo ⟨5, r, a, n, nm, ar⟩ then [a] else [] := by kernel_rfl
theorem wr5 (r a n : Int) (nm : ByteArray) (ar : Int) : wrOf ⟨5, r, a, n, nm, ar⟩ = if fo ⟨5, r, a, n, nm, ar⟩ then [] else [] := by kernel_rfl
theorem fo6 (r a n : Int) (nm : ByteArray) (ar : Int) : fo ⟨6, r, a, n, nm, ar⟩ = ((true && (rOk r && true)) && sameI ⟨6, r, a, n, nm, ar⟩ ⟨6, r, 0, 0, ⟨#[]⟩, 0⟩) := by kernel_rfl
theorem rd6 (r a n : Int) (nm : ByteArray) (ar : Int) : rdOf ⟨6, r, a, n, nm, ar⟩ = if fo ⟨6, r, a, n, nm, ar⟩ then [] else [] := by kernel_rfl
theorem wr6 (r a n : Int) (nm : ByteArray) (ar : Int) : wrOf ⟨6, r, a, n, nm, ar⟩ = if fo ⟨6, r, a, n, nm, ar⟩ then [r] else [] := by kernel_rfl
theorem fo7 (r a n : Int) (nm : ByteArray) (ar : Int) : fo ⟨7, r, a, n, nm, ar⟩ = ((true && (rOk r && true)) && sameI ⟨7, r, a, n, nm, ar⟩ ⟨7, r, 0, 0, ⟨#[]⟩, 0⟩) := by kernel_rfl
theorem rd7 (r a n : Int) (nm : ByteArray) (ar : Int) : rdOf ⟨7, r, a, n, nm, ar⟩ = if fo ⟨7, r, a, n, nm, ar⟩ then [r] else [] := by kernel_rfl
theorem wr7 (r a n : Int) (nm : ByteArray) (ar : Int) : wrOf ⟨7, r, a, n, nm, ar⟩ = if fo ⟨7, r, a, n, nm, ar⟩ then [] else [] := by kernel_rfl
theorem fo8 (r a n : Int) (nm : ByteArray) (ar : Int) : fo ⟨8, r, a, n, nm, ar⟩ = ((true && (true && true)) && sameI ⟨8, r, a, n, nm, ar⟩ ⟨8, 0, 0, n, ⟨#[]⟩, 0⟩) := by kernel_rfl
theorem rd8 (r a n : Int) (nm : ByteArray) (ar : Int) : rdOf ⟨8, r, a, n, nm, ar⟩ = if fo ⟨8, r, a, n, nm, ar⟩ then [] else [] := by kernel_rfl
theorem wr8 (r a n : Int) (nm : ByteArray) (ar : Int) : wrOf ⟨8, r, a, n, nm, ar⟩ = if fo ⟨8, r, a, n, nm, ar⟩ then [] else [] := by kernel_rfl
theorem fo9 (r a n : Int) (nm : ByteArray) (ar : Int) : fo ⟨9, r, a, n, nm, ar⟩ = ((true && (nmOk nm && true)) && sameI ⟨9, r, a, n, nm, ar⟩ ⟨9, 0, 0, 0, nm, 0⟩) := by kernel_rfl
theorem rd9 (r a n : Int) (nm : ByteArray) (ar : Int) : rdOf ⟨9, r, a, n, nm, ar⟩ = if fo ⟨9, r, a, n, nm, ar⟩ then [] else [] := by kernel_rfl
theorem wr9 (r a n : Int) (nm : ByteArray) (ar : Int) : wrOf ⟨9, r, a, n, nm, ar⟩ = if fo ⟨9, r, a, n, nm, ar⟩ then [] else [] := by kernel_rfl
theorem fo10 (r a n : Int) (nm : ByteArray) (ar : Int) : fo ⟨10, r, a, n, nm, ar⟩ = ((true && ((decide (1 ≤ n) && decide (n ≤ 8)) && true)) && sameI ⟨10, r, a, n, nm, ar⟩ ⟨10, 0, 0, n, ⟨#[]⟩, 0⟩) := by kernel_rfl
theorem rd10 (r a n : Int) (nm : ByteArray) (ar : Int) : rdOf ⟨10, r, a, n, nm, ar⟩ = if fo ⟨10, r, a, n, nm, ar⟩ then [] else [] := by kernel_rfl
theorem wr10 (r a n : Int) (nm : ByteArray) (ar : Int) : wrOf ⟨10, r, a, n, nm, ar⟩ = if fo ⟨10, r, a, n, nm, ar⟩ then [] else [] := by kernel_rfl
theorem fo11 (r a n : Int) (nm : ByteArray) (ar : Int) : fo ⟨11, r, a, n, nm, ar⟩ = ((true && (rOk r && (aOk a && true))) && sameI ⟨11, r, a, n, nm, ar⟩ ⟨11, r, a, 0, ⟨#[]⟩, 0⟩) := by kernel_rfl
theorem rd11 (r a n : Int) (nm : ByteArray) (ar : Int) : rdOf ⟨11, r, a, n, nm, ar⟩ = if fo ⟨11, r, a, n, nm, ar⟩ then [] else [] := by kernel_rfl
theorem wr11 (r a n : Int) (nm : ByteArray) (ar : Int) : wrOf ⟨11, r, a, n, nm, ar⟩ = if fo ⟨11, r, a, n, nm, ar⟩ then (if [r].contains a then [r] else [r, a]) else [] := by kernel_rfl
theorem fo12 (r a n : Int) (nm : ByteArray) (ar : Int) : fo ⟨12, r, a, n, nm, ar⟩ = ((true && (rOk r && (aOk a && true))) && sameI ⟨12, r, a, n, nm, ar⟩ ⟨12, r, a, 0, ⟨#[]⟩, 0⟩) := by kernel_rfl
theorem rd12 (r a n : Int) (nm : ByteArray) (ar : Int) : rdOf ⟨12, r, a, n, nm, ar⟩ = if fo ⟨12, r, a, n, nm, ar⟩ then [r] else [] := by kernel_rfl
theorem wr12 (r a n : Int) (nm : ByteArray) (ar : Int) : wrOf ⟨12, r, a, n, nm, ar⟩ = if fo ⟨12, r, a, n, nm, ar⟩ then [a] else [] := by kernel_rfl
theorem fo13 (r a n : Int) (nm : ByteArray) (ar : Int) : fo ⟨13, r, a, n, nm, ar⟩ = ((true && (aOk a && (true && true))) && sameI ⟨13, r, a, n, nm, ar⟩ ⟨13, 0, a, n, ⟨#[]⟩, 0⟩) := by kernel_rfl
theorem rd13 (r a n : Int) (nm : ByteArray) (ar : Int) : rdOf ⟨13, r, a, n, nm, ar⟩ = if fo ⟨13, r, a, n, nm, ar⟩ then [] else [] := by kernel_rfl
theorem wr13 (r a n : Int) (nm : ByteArray) (ar : Int) : wrOf ⟨13, r, a, n, nm, ar⟩ = if fo ⟨13, r, a, n, nm, ar⟩ then [a] else [] := by kernel_rfl
theorem fo14 (r a n : Int) (nm : ByteArray) (ar : Int) : fo ⟨14, r, a, n, nm, ar⟩ = ((true && (aOk a && (nmOk nm && true))) && sameI ⟨14, r, a, n, nm, ar⟩ ⟨14, 0, a, 0, nm, 0⟩) := by kernel_rfl
theorem rd14 (r a n : Int) (nm : ByteArray) (ar : Int) : rdOf ⟨14, r, a, n, nm, ar⟩ = if fo ⟨14, r, a, n, nm, ar⟩ then [] else [] := by kernel_rfl
theorem wr14 (r a n : Int) (nm : ByteArray) (ar : Int) : wrOf ⟨14, r, a, n, nm, ar⟩ = if fo ⟨14, r, a, n, nm, ar⟩ then [a] else [] := by kernel_rfl
theorem fo15 (r a n : Int) (nm : ByteArray) (ar : Int) : fo ⟨15, r, a, n, nm, ar⟩ = ((true && (rOk r && ((nmOk nm && (decide (1 ≤ ar) && decide (ar ≤ 8))) && true))) && sameI ⟨15, r, a, n, nm, ar⟩ ⟨15, r, 0, 0, nm, ar⟩) := by kernel_rfl
theorem rd15 (r a n : Int) (nm : ByteArray) (ar : Int) : rdOf ⟨15, r, a, n, nm, ar⟩ = if fo ⟨15, r, a, n, nm, ar⟩ then [] else [] := by kernel_rfl
theorem wr15 (r a n : Int) (nm : ByteArray) (ar : Int) : wrOf ⟨15, r, a, n, nm, ar⟩ = if fo ⟨15, r, a, n, nm, ar⟩ then [r] else [] := by kernel_rfl
theorem fo16 (r a n : Int) (nm : ByteArray) (ar : Int) : fo ⟨16, r, a, n, nm, ar⟩ = ((true && ((decide (0 ≤ n) && decide (n ≤ 4096)) && true)) && sameI ⟨16, r, a, n, nm, ar⟩ ⟨16, 0, 0, n, ⟨#[]⟩, 0⟩) := by kernel_rfl
theorem rd16 (r a n : Int) (nm : ByteArray) (ar : Int) : rdOf ⟨16, r, a, n, nm, ar⟩ = if fo ⟨16, r, a, n, nm, ar⟩ then [] else [] := by kernel_rfl
theorem wr16 (r a n : Int) (nm : ByteArray) (ar : Int) : wrOf ⟨16, r, a, n, nm, ar⟩ = if fo ⟨16, r, a, n, nm, ar⟩ then [] else [] := by kernel_rfl
theorem fo17 (r a n : Int) (nm : ByteArray) (ar : Int) : fo ⟨17, r, a, n, nm, ar⟩ = ((true && ((decide (0 ≤ n) && decide (n ≤ 4096)) && true)) && sameI ⟨17, r, a, n, nm, ar⟩ ⟨17, 0, 0, n, ⟨#[]⟩, 0⟩) := by kernel_rfl
theorem rd17 (r a n : Int) (nm : ByteArray) (ar : Int) : rdOf ⟨17, r, a, n, nm, ar⟩ = if fo ⟨17, r, a, n, nm, ar⟩ then [] else [] := by kernel_rfl
theorem wr17 (r a n : Int) (nm : ByteArray) (ar : Int) : wrOf ⟨17, r, a, n, nm, ar⟩ = if fo ⟨17, r, a, n, nm, ar⟩ then [] else [] := by kernel_rfl
theorem fo18 (r a n : Int) (nm : ByteArray) (ar : Int) : fo ⟨18, r, a, n, nm, ar⟩ = ((true && true) && sameI ⟨18, r, a, n, nm, ar⟩ ⟨18, 0, 0, 0, ⟨#[]⟩, 0⟩) := by kernel_rfl
theorem rd18 (r a n : Int) (nm : ByteArray) (ar : Int) : rdOf ⟨18, r, a, n, nm, ar⟩ = if fo ⟨18, r, a, n, nm, ar⟩ then [] else [] := by kernel_rfl
theorem wr18 (r a n : Int) (nm : ByteArray) (ar : Int) : wrOf ⟨18, r, a, n, nm, ar⟩ = if fo ⟨18, r, a, n, nm, ar⟩ then [] else [] := by kernel_rfl
theorem fo19 (r a n : Int) (nm : ByteArray) (ar : Int) : fo ⟨19, r, a, n, nm, ar⟩ = ((true && (pdOk nm ar n && true)) && sameI ⟨19, r, a, n, nm, ar⟩ ⟨19, 0, 0, n, nm, ar⟩) := by kernel_rfl
theorem rd19 (r a n : Int) (nm : ByteArray) (ar : Int) : rdOf ⟨19, r, a, n, nm, ar⟩ = if fo ⟨19, r, a, n, nm, ar⟩ then (List.range ar.toNat).map fun i : Nat => (i : Int) + 1 else [] := by kernel_rfl
theorem wr19 (r a n : Int) (nm : ByteArray) (ar : Int) : wrOf ⟨19, r, a, n, nm, ar⟩ = if fo ⟨19, r, a, n, nm, ar⟩ then [] else [] := by kernel_rfl
theorem fo20 (r a n : Int) (nm : ByteArray) (ar : Int) : fo ⟨20, r, a, n, nm, ar⟩ = ((true && (pdOk nm ar n && true)) && sameI ⟨20, r, a, n, nm, ar⟩ ⟨20, 0, 0, n, nm, ar⟩) := by kernel_rfl
theorem rd20 (r a n : Int) (nm : ByteArray) (ar : Int) : rdOf ⟨20, r, a, n, nm, ar⟩ = if fo ⟨20, r, a, n, nm, ar⟩ then (List.range ar.toNat).map fun i : Nat => (i : Int) + 1 else [] := by kernel_rfl
theorem wr20 (r a n : Int) (nm : ByteArray) (ar : Int) : wrOf ⟨20, r, a, n, nm, ar⟩ = if fo ⟨20, r, a, n, nm, ar⟩ then [] else [] := by kernel_rfl
theorem fo21 (r a n : Int) (nm : ByteArray) (ar : Int) : fo ⟨21, r, a, n, nm, ar⟩ = ((true && true) && sameI ⟨21, r, a, n, nm, ar⟩ ⟨21, 0, 0, 0, ⟨#[]⟩, 0⟩) := by kernel_rfl
theorem rd21 (r a n : Int) (nm : ByteArray) (ar : Int) : rdOf ⟨21, r, a, n, nm, ar⟩ = if fo ⟨21, r, a, n, nm, ar⟩ then [] else [] := by kernel_rfl
theorem wr21 (r a n : Int) (nm : ByteArray) (ar : Int) : wrOf ⟨21, r, a, n, nm, ar⟩ = if fo ⟨21, r, a, n, nm, ar⟩ then [] else [] := by kernel_rfl
theorem fo22 (r a n : Int) (nm : ByteArray) (ar : Int) : fo ⟨22, r, a, n, nm, ar⟩ = ((true && (rOk r && true)) && sameI ⟨22, r, a, n, nm, ar⟩ ⟨22, r, 0, 0, ⟨#[]⟩, 0⟩) := by kernel_rfl
theorem rd22 (r a n : Int) (nm : ByteArray) (ar : Int) : rdOf ⟨22, r, a, n, nm, ar⟩ = if fo ⟨22, r, a, n, nm, ar⟩ then [] else [] := by kernel_rfl
theorem wr22 (r a n : Int) (nm : ByteArray) (ar : Int) : wrOf ⟨22, r, a, n, nm, ar⟩ = if fo ⟨22, r, a, n, nm, ar⟩ then [r] else [] := by kernel_rfl
theorem fo23 (r a n : Int) (nm : ByteArray) (ar : Int) : fo ⟨23, r, a, n, nm, ar⟩ = ((true && (rOk r && true)) && sameI ⟨23, r, a, n, nm, ar⟩ ⟨23, r, 0, 0, ⟨#[]⟩, 0⟩) := by kernel_rfl
theorem rd23 (r a n : Int) (nm : ByteArray) (ar : Int) : rdOf ⟨23, r, a, n, nm, ar⟩ = if fo ⟨23, r, a, n, nm, ar⟩ then [] else [] := by kernel_rfl
theorem wr23 (r a n : Int) (nm : ByteArray) (ar : Int) : wrOf ⟨23, r, a, n, nm, ar⟩ = if fo ⟨23, r, a, n, nm, ar⟩ then [r] else [] := by kernel_rfl
theorem fo24 (r a n : Int) (nm : ByteArray) (ar : Int) : fo ⟨24, r, a, n, nm, ar⟩ = ((true && (rOk r && true)) && sameI ⟨24, r, a, n, nm, ar⟩ ⟨24, r, 0, 0, ⟨#[]⟩, 0⟩) := by kernel_rfl
theorem rd24 (r a n : Int) (nm : ByteArray) (ar : Int) : rdOf ⟨24, r, a, n, nm, ar⟩ = if fo ⟨24, r, a, n, nm, ar⟩ then [r] else [] := by kernel_rfl
theorem wr24 (r a n : Int) (nm : ByteArray) (ar : Int) : wrOf ⟨24, r, a, n, nm, ar⟩ = if fo ⟨24, r, a, n, nm, ar⟩ then [] else [] := by kernel_rfl
theorem fo25 (r a n : Int) (nm : ByteArray) (ar : Int) : fo ⟨25, r, a, n, nm, ar⟩ = ((true && true) && sameI ⟨25, r, a, n, nm, ar⟩ ⟨25, 0, 0, 0, ⟨#[]⟩, 0⟩) := by kernel_rfl
theorem rd25 (r a n : Int) (nm : ByteArray) (ar : Int) : rdOf ⟨25, r, a, n, nm, ar⟩ = if fo ⟨25, r, a, n, nm, ar⟩ then [] else [] := by kernel_rfl
theorem wr25 (r a n : Int) (nm : ByteArray) (ar : Int) : wrOf ⟨25, r, a, n, nm, ar⟩ = if fo ⟨25, r, a, n, nm, ar⟩ then [] else [] := by kernel_rfl
end Go.Proofs.Yteffpeokialeiaa
