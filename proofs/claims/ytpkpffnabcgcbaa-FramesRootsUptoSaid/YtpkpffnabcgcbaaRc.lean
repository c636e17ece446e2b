/-
  The plain law of FramesRoots.
-/
import Derived.Test.YtpkpffnabcgcbaaRb
import Derived.Test.YtpkpffnabcgcbaaVh
namespace Go.Proofs.Ytpkpffnabcgcbaa
open Go.RowKit

theorem cellsE_app (l m : List En) : cellsE (l ++ m) = cellsE l ++ cellsE m := by simp [cellsE]
theorem cellsH_app (l m : List Ch) : cellsH (l ++ m) = cellsH l ++ cellsH m := by simp [cellsH]
theorem cellsE_set {c : List Cl} : ∀ {l : List En} {n : Nat} {x : En}, l[n]? = some x → c.length = x.y.length → (cellsE (l.set n { x with y := c })).length = (cellsE l).length
  | [], _, _, h, _ => by simp at h
  | z :: l, 0, x, h, hc => by
    simp at h
    subst h
    simp [cellsE, hc]
  | z :: l, n + 1, x, h, hc => by
    have := cellsE_set (l := l) (n := n) (by simpa using h) hc
    simp only [cellsE, List.set_cons_succ, List.flatMap_cons, List.length_append] at this ⊢
    omega
theorem cellsE_take (l : List En) (n : Nat) : (cellsE (l.take n)).length ≤ (cellsE l).length := by
  have := cellsE_app (l.take n) (l.drop n)
  rw [List.take_append_drop] at this
  rw [this, List.length_append]
  omega
/-- what Set does to the cells -/
theorem set_cells {p : St} (g : Good p) (y : Int) (c : Cl) : (stOf p (setV p y c)).chs = p.chs ∧ (cellsE (stOf p (setV p y c)).envs).length ≤ (cellsE p.envs).length + 4096 ∧ (errOf (setV p y c) = 0 → c ∈ cellsE (stOf p (setV p y c)).envs) := by
  unfold setV
  cases hc : curN p with
  | none => exact ⟨rfl, Nat.le_add_right _ _, fun h => by cases h⟩
  | some n =>
    cases hz : p.envs[n]? with
    | none => simp only [hz]; exact ⟨rfl, Nat.le_add_right _ _, fun h => by cases h⟩
    | some z =>
      simp only [hz]
      have hyl : z.y.length ≤ 4096 := (g.en n z hz).2.2.2
      split
      · exact ⟨rfl, Nat.le_add_right _ _, fun h => by cases h⟩
      · rename_i hb
        have hn : (y - 1).toNat < z.y.length := by omega
        have hmem : c ∈ z.y.set (y - 1).toNat c := List.mem_iff_getElem?.2 ⟨(y - 1).toNat, by rw [List.getElem?_set_self hn]⟩
        split
        · refine ⟨rfl, ?_, fun _ => ?_⟩
          · show (cellsE (p.envs.set n { z with y := z.y.set (y - 1).toNat c })).length ≤ _
            rw [cellsE_set hz (List.length_set ..)]
            omega
          · exact List.mem_flatMap.2 ⟨_, List.mem_iff_getElem?.2 ⟨n, List.getElem?_set_self (List.getElem?_eq_some_iff.1 hz).1⟩, hmem⟩
        · split
          · exact ⟨rfl, Nat.le_add_right _ _, fun h => by cases h⟩
          · refine ⟨rfl, ?_, fun _ => ?_⟩
            · show (cellsE (p.envs.take (keepN p) ++ [{ z with y := z.y.set (y - 1).toNat c }])).length ≤ _
              rw [cellsE_app, List.length_append]
              have h1 := cellsE_take p.envs (keepN p)
              have h2 : (cellsE [{ z with y := z.y.set (y - 1).toNat c }]).length = z.y.length := by simp [cellsE]
              omega
            · exact List.mem_flatMap.2 ⟨_, List.mem_append_right _ List.mem_cons_self, hmem⟩
/-- what Push does to the cells -/
theorem push_cells (p : St) (x : Ch) : (errOf (pushV p x) = 0 → rootsV (stOf p (pushV p x)) = rootsV p ++ x.args) ∧ (errOf (pushV p x) ≠ 0 → stOf p (pushV p x) = p) := by
  unfold pushV
  split
  · exact ⟨(fun h => by cases h), fun _ => rfl⟩
  · refine ⟨fun _ => ?_, fun h => absurd rfl h⟩
    show cellsE p.envs ++ cellsH (p.chs ++ [_]) = _
    rw [cellsH_app]
    simp [rootsV, cellsH]
theorem roots_plain {s : St} (g : Good s) (y : Int) (c : Cl) (x : Ch) {s1 s2 : St} (h1 : s1 = stOf s (setV s y c)) (h2 : s2 = stOf s1 (pushV s1 x)) :
    (errOf (setV s y c) = 0 → c ∈ rootsV s2) ∧ (errOf (pushV s1 x) = 0 → ∃ pre, rootsV s2 = pre ++ x.args) ∧ (rootsV s2).length ≤ (rootsV s).length + 4096 + x.args.length := by
  obtain ⟨e1, e2, e3⟩ := set_cells g y c
  rw [← h1] at e1 e2 e3
  obtain ⟨f1, f2⟩ := push_cells s1 x
  rw [← h2] at f1 f2
  have hlen : (rootsV s1).length ≤ (rootsV s).length + 4096 := by
    unfold rootsV
    rw [List.length_append, List.length_append, e1]
    omega
  by_cases he : errOf (pushV s1 x) = 0
  · rw [f1 he]
    refine ⟨fun h => ?_, fun _ => ⟨_, rfl⟩, by rw [List.length_append]; omega⟩
    exact List.mem_append_left _ (List.mem_append_left _ (e3 h))
  · rw [f2 he]
    refine ⟨fun h => List.mem_append_left _ (e3 h), fun h => absurd h he, by omega⟩
theorem good_set {s : St} (g : Good s) (y : Int) (c : Cl) : Good (stOf s (setV s y c)) := by
  have := good_do (x := ⟨4, y, 0, 0, c, chO⟩) g
  rwa [doV4 rfl] at this
theorem good_push {s : St} (g : Good s) (x : Ch) : Good (stOf s (pushV s x)) := by
  have := good_do (x := ⟨5, 0, 0, 0, ⟨0, 0⟩, x⟩) g
  rwa [doV5 rfl] at this
theorem mem_cellsE {l : List En} {x : En} (h : x ∈ l) : x.y.length ≤ (cellsE l).length := by
  obtain ⟨a, b, rfl⟩ := List.append_of_mem h
  simp [cellsE]
  omega
theorem mem_cellsH {l : List Ch} {x : Ch} (h : x ∈ l) : x.args.length ≤ (cellsH l).length := by
  obtain ⟨a, b, rfl⟩ := List.append_of_mem h
  simp [cellsH]
  omega
end Go.Proofs.Ytpkpffnabcgcbaa
