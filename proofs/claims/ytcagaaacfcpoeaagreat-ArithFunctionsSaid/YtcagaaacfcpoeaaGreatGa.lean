/-
  Plain: the codes of the functions on integers; the reference's balls are the program's.
-/
import Derived.Test.YtcagaaacfcpoeaaGreatCu
import Derived.Test.YtcagaaacfcpoeaaGreatCx
namespace Go.Proofs.YtcagaaacfcpoeaaGreat
open Go.RowKit

/-- a value, or no value and one of three codes -/
def Cd (p : Int × Int) : Prop := p.2 = 0 ∨ p = (0, 10) ∨ p = (0, 11) ∨ p = (0, 12)
theorem cd_ok (n : Int) : Cd (n, 0) := .inl rfl
theorem cd_ite {c : Prop} [Decidable c] {x y : Int × Int} (h1 : Cd x) (h2 : Cd y) : Cd (if c then x else y) := by
  split
  · exact h1
  · exact h2
theorem cd_ite2 {c : Prop} [Decidable c] {x y : Int × Int} (h1 : c → Cd x) (h2 : ¬ c → Cd y) : Cd (if c then x else y) := by
  split
  · exact h1 (by assumption)
  · exact h2 (by assumption)
theorem cd_ovf (n : Int) : Cd (ovf n) := by
  unfold ovf
  split
  · exact cd_ok _
  · exact .inr (.inl rfl)
theorem cd_absE (a : Int) : Cd (absE a) := by unfold absE; exact cd_ite (cd_ovf _) (cd_ok _)
theorem cd_quo (a b : Int) : Cd (quo a b) := by
  unfold quo
  split
  · exact .inr (.inr (.inl rfl))
  · exact cd_ovf _
theorem cd_rmd (a b : Int) : Cd (rmd a b) := by
  unfold rmd
  split
  · exact .inr (.inr (.inl rfl))
  · exact cd_ok _
theorem cd_mdl (a b : Int) : Cd (mdl a b) := by
  unfold mdl
  split
  · exact .inr (.inr (.inl rfl))
  · exact cd_ok _
theorem cd_flr (a b : Int) : Cd (flr a b) := by
  unfold flr
  split
  · exact .inr (.inr (.inl rfl))
  · split
    · exact .inr (.inl rfl)
    · split <;> exact cd_ok _
theorem cd_shr (a b : Int) : Cd (shr a b) := by
  unfold shr
  split
  · exact .inr (.inr (.inr rfl))
  · exact cd_ok _
theorem cd_shl (a b : Int) : Cd (shl a b) := by
  unfold shl
  split
  · exact .inr (.inr (.inr rfl))
  · exact cd_ovf _
theorem cd_pw (a b : Int) : Cd (pw a b) := by
  unfold pw
  repeat' split
  all_goals first | exact cd_ovf _ | exact cd_ok _ | exact .inr (.inl rfl) | exact .inr (.inr (.inl rfl)) | exact .inr (.inr (.inr rfl))
theorem cd_gcdE (a b : Int) : Cd (gcdE a b) := by
  unfold gcdE
  exact cd_ovf _
theorem cd_unS {x : ByteArray} (a : Int) (hk : knS x 1 = true) : Cd (unS x a) := by
  unfold unS
  repeat' split
  all_goals first | exact cd_ovf _ | exact cd_ok _ | exact cd_absE _ | skip
  exfalso
  simp [knS, namesS, unN, *] at hk
theorem cd_binS {x : ByteArray} (a b : Int) (hk : knS x 2 = true) : Cd (binS x a b) := by
  have hk2 : biN.any (eqS x) = true := hk
  simp only [biN, List.any_cons, List.any_nil, Bool.or_false, Bool.or_eq_true] at hk2
  unfold binS
  repeat' first | exact cd_ovf _ | exact cd_quo _ _ | exact cd_rmd _ _ | exact cd_flr _ _ | exact cd_mdl _ _ | exact cd_shr _ _ | exact cd_shl _ _ | exact cd_pw _ _ | exact cd_gcdE _ _ | exact cd_ok _ | refine cd_ite2 (fun _ => ?_) (fun _ => ?_)
  exfalso
  simp_all
/-- the reference's ball of a code -/
def failC (e : Int) : Tm := if e = 10 then revC { data := #[105, 110, 116, 95, 111, 118, 101, 114, 102, 108, 111, 119] } else if e = 11 then revC { data := #[122, 101, 114, 111, 95, 100, 105, 118, 105, 115, 111, 114] } else revC { data := #[117, 110, 100, 101, 102, 105, 110, 101, 100] }
@[reducible] def indRC (s : ByteArray) (n : Int) : Tm := if n < 0 ∨ 8 < n then zeroT else cloneT (goalC { data := #[47] } [atmC s, intC n])
@[reducible] def withC (t : Tm) (f x : ByteArray) : Tm := if validT t = false then zeroT else ballC (goalC f [atmC x, if 2000 < 4 + min (cnt t : Int) 2001 then atmC { data := #[46, 46, 46] } else t])
@[reducible] def unkRC (s : ByteArray) (n : Int) : Tm := withC (indRC s n) { data := #[116, 121, 112, 101, 95, 101, 114, 114, 111, 114] } { data := #[101, 118, 97, 108, 117, 97, 98, 108, 101] }
@[reducible] def instRC : Tm := ballC (atmC { data := #[105, 110, 115, 116, 97, 110, 116, 105, 97, 116, 105, 111, 110, 95, 101, 114, 114, 111, 114] })
theorem inst_eq : instC = instRC := by
  simp [instC, raiseC, cloneT, structC, atomC, validT, cnt, cnt.go, okT, okT.go, nodeB, ByteArray.size]
theorem eval_eq1 : evalC { data := #[105, 110, 116, 95, 111, 118, 101, 114, 102, 108, 111, 119] } = revC { data := #[105, 110, 116, 95, 111, 118, 101, 114, 102, 108, 111, 119] } := by
  simp [evalC, namedC, raiseC, structC, atomC, cloneT, validT, cnt, cnt.go, okT, okT.go, nodeB, ByteArray.size]
theorem eval_eq2 : evalC { data := #[122, 101, 114, 111, 95, 100, 105, 118, 105, 115, 111, 114] } = revC { data := #[122, 101, 114, 111, 95, 100, 105, 118, 105, 115, 111, 114] } := by
  simp [evalC, namedC, raiseC, structC, atomC, cloneT, validT, cnt, cnt.go, okT, okT.go, nodeB, ByteArray.size]
theorem eval_eq3 : evalC { data := #[117, 110, 100, 101, 102, 105, 110, 101, 100] } = revC { data := #[117, 110, 100, 101, 102, 105, 110, 101, 100] } := by
  simp [evalC, namedC, raiseC, structC, atomC, cloneT, validT, cnt, cnt.go, okT, okT.go, nodeB, ByteArray.size]
theorem valR_ok {p : Int × Int} (h : p.2 = 0) : valR p = .ok p.1 := by
  unfold valR; rw [if_neg (by omega), if_neg (by omega), if_neg (by omega)]
theorem valR_bad {p : Int × Int} (h : Cd p) (h0 : p.2 ≠ 0) : valR p = .error (failC p.2) ∧ p.1 = 0 := by
  rcases h with h | rfl | rfl | rfl
  · exact absurd h h0
  · exact ⟨by unfold valR failC; rw [if_pos rfl, if_pos rfl, eval_eq1], rfl⟩
  · refine ⟨?_, rfl⟩
    unfold valR failC
    rw [if_neg (by decide), if_pos rfl, if_neg (by decide), if_pos rfl, eval_eq2]
  · refine ⟨?_, rfl⟩
    unfold valR failC
    rw [if_neg (by decide), if_neg (by decide), if_pos rfl, if_neg (by decide), if_neg (by decide), eval_eq3]
theorem valid_atm {s : ByteArray} (hs : s.size ≤ 100) : validT (atmC s) = true ∧ okT (atmC s) = true := by
  have h : okT (atmC s) = true := by
    rw [okT_mk]
    simp only [okT.go, Bool.and_true, nodeB]
    simp
    omega
  refine ⟨?_, h⟩
  unfold validT
  rw [h, cnt_mk]
  rfl
theorem ind_eq {s : ByteArray} {n : Nat} (hs : s.size ≤ 100) (hn : n ≤ 8) : indC s (n : Int) = goalC { data := #[47] } [atmC s, intC n] ∧ indRC s (n : Int) = goalC { data := #[47] } [atmC s, intC n] ∧ validT (goalC { data := #[47] } [atmC s, intC n]) = true ∧ cnt (goalC { data := #[47] } [atmC s, intC n]) = 3 := by
  have hc : cnt (goalC { data := #[47] } [atmC s, intC n]) = 3 := by simp [cnt, cnt.go]
  have hv : validT (goalC { data := #[47] } [atmC s, intC n]) = true := by
    unfold validT
    rw [hc, okT_mk]
    simp only [okT.go, (valid_atm hs).2]
    simp [okT_mk, okT.go, nodeB, ByteArray.size]
  have ha : atomC s = atmC s := by
    unfold atomC cloneT
    rw [if_pos (valid_atm hs).1]
  refine ⟨?_, ?_, hv, hc⟩
  · unfold indC structC cloneT
    rw [if_neg (by omega), if_neg (by simp), ha, if_pos hv]
  · unfold indRC cloneT
    rw [if_neg (by omega), if_pos hv]
theorem unk_eq {s : ByteArray} {n : Nat} (hs : s.size ≤ 100) (hn : n ≤ 8) : unkC s n = unkRC s (n : Int) := by
  obtain ⟨h1, h2, h3, h4⟩ := ind_eq hs hn
  have k1 := (validT_ok h3).1
  unfold unkC unkRC typeC aboutC withC
  rw [h1, h2, h3]
  obtain ⟨t, ht⟩ : ∃ t, t = goalC { data := #[47] } [atmC s, intC n] := ⟨_, rfl⟩
  rw [← ht] at h4 k1 ⊢
  clear ht h1 h2 h3
  have e1 : (if 2000 < 4 + min (cnt t : Int) 2001 then atomC { data := #[46, 46, 46] } else t) = t := if_neg (by rw [h4]; decide)
  have e2 : (if 2000 < 4 + min (cnt t : Int) 2001 then atmC { data := #[46, 46, 46] } else t) = t := if_neg (by rw [h4]; decide)
  rw [e1, e2, if_neg (by simp [ByteArray.size]), if_neg (by decide)]
  simp [raiseC, structC, atomC, ballC, cloneT, validT, cnt, cnt.go, okT, okT.go, nodeB, ByteArray.size, k1, h4]
end Go.Proofs.YtcagaaacfcpoeaaGreat
