/-
  The memory of regs.allocate at its start.
-/
import Derived.Test.YteffpeokialeiaaBf
namespace Go.Proofs.Yteffpeokialeiaa
open Go.RowKit

theorem Ao.start {w w1 : World} {gl : Nat} {lf : Int → Option Value} (hl : LaAt w w1 gl lf) (base : Int) (N0 r fb F0 U0 : Nat) (e1 : w1.heap.size + 1 = N0) (e2 : N0 + 1 = r) (e3 : r + 1 = fb) (e4 : fb + 1 = F0) (e5 : F0 + 1 = U0) :
    Ao w ((((((w1.alloc (.map #[] 0)).alloc (.cells #[.map (some w1.heap.size)] 59)).alloc (.cells #[] 3)).alloc (.cells #[.slice (some ⟨r, 0, none⟩) 0 0] 62)).alloc (.cells #[.pointer (some ⟨fb, 0, none⟩)] 61)).alloc (.cells #[.int .i64 0] 3))
      ⟨F0, fb, N0, w1.heap.size, U0, r⟩ gl lf (.slice (some ⟨r, 0, none⟩) 0 0) (.slice none 0 0) (st0 base) [] := by
  have hz := hl.2.2.size
  have hg := hl.2.1
  have hlt := hl.1.lt
  generalize hA : w1.alloc (.map #[] 0) = wA
  have zA : wA.heap.size = N0 := by rw [← hA]; simpa using e1
  have mA : MapI wA w1.heap.size (fun _ => none) := by rw [← hA]; exact MapI.new w1
  have lA : LaAt w wA gl lf := by rw [← hA]; exact hl.alloc _
  generalize hB : wA.alloc (.cells #[.map (some w1.heap.size)] 59) = wB
  have zB : wB.heap.size = r := by rw [← hB]; simp; omega
  have bB : Blk wB N0 59 #[.map (some w1.heap.size)] := by rw [← hB, ← zA]; exact Blk.new _ _ _
  have mB : MapI wB w1.heap.size (fun _ => none) := by rw [← hB]; exact mA.alloc _
  have lB : LaAt w wB gl lf := by rw [← hB]; exact lA.alloc _
  generalize hC : wB.alloc (.cells #[] 3) = wC
  have zC : wC.heap.size = fb := by rw [← hC]; simp; omega
  have bC : Blk wC r 3 #[] := by rw [← hC, ← zB]; exact Blk.new _ _ _
  have bB2 : Blk wC N0 59 #[.map (some w1.heap.size)] := by rw [← hC]; exact bB.alloc _
  have mC : MapI wC w1.heap.size (fun _ => none) := by rw [← hC]; exact mB.alloc _
  have lC : LaAt w wC gl lf := by rw [← hC]; exact lB.alloc _
  generalize hD : wC.alloc (.cells #[.slice (some ⟨r, 0, none⟩) 0 0] 62) = wD
  have zD : wD.heap.size = F0 := by rw [← hD]; simp; omega
  have bD : Blk wD fb 62 #[.slice (some ⟨r, 0, none⟩) 0 0] := by rw [← hD, ← zC]; exact Blk.new _ _ _
  have bC3 : Blk wD r 3 #[] := by rw [← hD]; exact bC.alloc _
  have bB3 : Blk wD N0 59 #[.map (some w1.heap.size)] := by rw [← hD]; exact bB2.alloc _
  have mD : MapI wD w1.heap.size (fun _ => none) := by rw [← hD]; exact mC.alloc _
  have lD : LaAt w wD gl lf := by rw [← hD]; exact lC.alloc _
  generalize hE : wD.alloc (.cells #[.pointer (some ⟨fb, 0, none⟩)] 61) = wE
  have zE : wE.heap.size = U0 := by rw [← hE]; simp; omega
  have bE : Blk wE F0 61 #[.pointer (some ⟨fb, 0, none⟩)] := by rw [← hE, ← zD]; exact Blk.new _ _ _
  have bD4 : Blk wE fb 62 #[.slice (some ⟨r, 0, none⟩) 0 0] := by rw [← hE]; exact bD.alloc _
  have bC4 : Blk wE r 3 #[] := by rw [← hE]; exact bC3.alloc _
  have bB4 : Blk wE N0 59 #[.map (some w1.heap.size)] := by rw [← hE]; exact bB3.alloc _
  have mE : MapI wE w1.heap.size (fun _ => none) := by rw [← hE]; exact mD.alloc _
  have lE : LaAt w wE gl lf := by rw [← hE]; exact lD.alloc _
  have bF : Blk (wE.alloc (.cells #[.int .i64 0] 3)) U0 3 #[.int .i64 0] := by rw [← zE]; exact Blk.new _ _ _
  have lF := lE.alloc (.cells #[.int .i64 0] 3)
  refine ⟨⟨⟨bE.alloc _, bB4.alloc _, bF⟩, (mE.alloc _).congr fun y => rfl, ⟨[], ⟨bD4.alloc _, ⟨rfl, .inr ⟨r, 0, #[], rfl, Nat.le_refl _, bC4.alloc _, Nat.le_refl _, by unfold maxLen; omega, rfl, rfl⟩⟩⟩, fun k h0 hk => by simp at hk, List.Perm.refl _, List.Pairwise.nil⟩, ?_, ?_⟩, ⟨lF.1, by show gl ≠ w1.heap.size; omega⟩, ⟨rfl, .inl ⟨rfl, rfl⟩⟩, lF.2.2, ?_⟩
  · show (some r : Option Nat) ≠ some U0; intro e; injection e with e; omega
  · show r ≤ _; simp [zE]; omega
  · exact ⟨(show w.heap.size ≤ fb by omega), (show w.heap.size ≤ w1.heap.size by omega), (show w.heap.size ≤ U0 by omega), (show w.heap.size ≤ r by omega)⟩
end Go.Proofs.Yteffpeokialeiaa
