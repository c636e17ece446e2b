/-
  Stacks with a further choice point, with a further environment.
-/
import Derived.Test.YtpkpffnabcgcbaaFj
namespace Go.Proofs.Ytpkpffnabcgcbaa
open Go.RowKit

/-- blocks that are new, of rows of two types, beside old ones -/
theorem nodup_two {L : List Nat} {l : List Value} {va vb : Value} {w' : World} {b B n m ta tb sa sb : Nat} {xs ys : List Value} (hl : (blks l).Nodup) (hlt : ∀ g ∈ blks l, g < b) (hp : L.Perm (blks l ++ blks [va] ++ blks [vb]))
    (ha : w'.ownsRow B ta sa va n xs) (hb : w'.ownsRow B tb sb vb m ys) (ht : ta ≠ tb) (hna : ∀ g, va.ownBlock = some g → b ≤ g) (hnb : ∀ g, vb.ownBlock = some g → b ≤ g) : L.Nodup := by
  refine hp.nodup_iff.2 ?_
  have one : ∀ v : Value, ∀ g, g ∈ blks [v] → v.ownBlock = some g := fun v g hg => by
    unfold blks at hg
    obtain ⟨u, hu, e⟩ := List.mem_filterMap.1 hg
    rw [List.mem_singleton] at hu
    subst hu
    exact e
  have nd : ∀ v : Value, (blks [v]).Nodup := fun v => by
    unfold blks
    cases h : v.ownBlock <;> simp [h]
  refine List.nodup_append.2 ⟨List.nodup_append.2 ⟨hl, nd va, fun g hg k hk e => ?_⟩, nd vb, fun g hg k hk e => ?_⟩
  · subst e
    have h1 := hlt g hg
    have h2 := hna g (one va g hk)
    omega
  · subst e
    rcases List.mem_append.1 hg with hg | hg
    · have h1 := hlt g hg
      have h2 := hnb g (one vb g hk)
      omega
    · obtain ⟨c1, h1⟩ := own_ty ha (one va g hg)
      obtain ⟨c2, h2⟩ := own_ty hb (one vb g hk)
      rw [h1] at h2
      injection h2 with h2
      injection h2 with _ h2 _
      exact ht h2
section
variable {w w' : World} {B p : Nat} {s : St} {ve vc : Value} {ys : List Value} {cs : List (Value × Value)}
theorem blks_foot {b : Nat} (h : ∀ g ∈ foot p ve vc ys cs, g < b) : ∀ g ∈ blks (ys ++ cs.map (·.1) ++ cs.map (·.2)), g < b := by
  intro g hg
  refine h g ?_
  obtain ⟨v, hv, e⟩ := List.mem_filterMap.1 hg
  exact foot_mem (by simp only [List.cons_append, List.mem_cons]; exact .inr (.inr hv)) e
/-- the rows but that of the choice points are of other types than it and the box -/
theorem Stk.typed (h : Stk w B p s ve vc ys cs) {v : Value} (hv : v ∈ ve :: ys ++ cs.map (·.1) ++ cs.map (·.2)) : ∃ t size n xs, w.ownsRow B t size v n xs ∧ t ≠ 25 ∧ t ≠ 29 := by
  rcases List.mem_append.1 hv with hv | hv
  · rcases List.mem_append.1 hv with hv | hv
    · rcases List.mem_cons.1 hv with rfl | hv
      · exact ⟨_, _, _, _, h.envs, by decide, by decide⟩
      · obtain ⟨i, hi⟩ := List.mem_iff_getElem?.1 hv
        have hl := (List.getElem?_eq_some_iff.1 hi).1
        exact ⟨_, _, _, _, h.yrow i _ v (List.getElem?_eq_getElem (by rw [← h.ylen]; exact hl)) hi, by decide, by decide⟩
    · obtain ⟨u, hu, rfl⟩ := List.mem_map.1 hv
      obtain ⟨i, hi⟩ := List.mem_iff_getElem?.1 hu
      have hl := (List.getElem?_eq_some_iff.1 hi).1
      exact ⟨_, _, _, _, (h.crow i _ u (List.getElem?_eq_getElem (by rw [← h.clen]; exact hl)) hi).1, by decide, by decide⟩
  · obtain ⟨u, hu, rfl⟩ := List.mem_map.1 hv
    obtain ⟨i, hi⟩ := List.mem_iff_getElem?.1 hu
    have hl := (List.getElem?_eq_some_iff.1 hi).1
    exact ⟨_, _, _, _, (h.crow i _ u (List.getElem?_eq_getElem (by rw [← h.clen]; exact hl)) hi).2, by decide, by decide⟩
/-- rows of two types lie apart -/
theorem own_apart {t t' n n' size size' B' : Nat} {v u : Value} {xs xs' : List Value} (h : w.ownsRow B t size v n xs) (k : w.ownsRow B' t' size' u n' xs') (ht : t ≠ t') {g : Nat} (hg : v.ownBlock = some g) : some g ≠ u.ownBlock := by
  intro e
  obtain ⟨c1, h1⟩ := own_ty h hg
  obtain ⟨c2, h2⟩ := own_ty k e.symm
  rw [h1] at h2
  injection h2 with h2
  injection h2 with _ h2 _
  exact ht h2
/-- a choice point more -/
theorem Stk.pushed (h : Stk w B p s ve vc ys cs) {va vb vc' : Value} {x : Ch} {b : Nat} (hlt : ∀ g ∈ foot p ve vc ys cs, g < b)
    (hk : ∀ v ∈ ve :: ys ++ cs.map (·.1) ++ cs.map (·.2), ∀ g, v.ownBlock = some g → w'.heap[g]? = w.heap[g]?) (hb : Blk w' p 25 #[ve, .int .i64 s.e, vc'])
    (hc : w'.ownsRow B 29 11 vc' (s.chs.length + 1) (hCs s.chs cs ++ hCs [x] [(va, vb)])) (ha : w'.ownsRow B 38 2 va x.args.length (cCs x.args)) (hb2 : w'.ownsRow B 2 1 vb x.alts.length (iCs x.alts))
    (hna : ∀ g, va.ownBlock = some g → b ≤ g) (hnb : ∀ g, vb.ownBlock = some g → b ≤ g) :
    Stk w' B p ⟨s.envs, s.e, s.chs ++ [x]⟩ ve vc' ys (cs ++ [(va, vb)]) := by
  have ho : ∀ {t size n : Nat} {v : Value} {xs : List Value}, w.ownsRow B t size v n xs → v ∈ ve :: ys ++ cs.map (·.1) ++ cs.map (·.2) → w'.ownsRow B t size v n xs := fun h1 hv => own_stay h1 fun g hg => hk _ hv g hg
  refine ⟨hb, h.low, ho h.envs (by simp), ?_, h.ylen, by simp [h.clen], fun i z v hz hv => ho (h.yrow i z v hz hv) (by simp [List.mem_of_getElem? hv]), fun i z v hz hv => ?_, ?_⟩
  · show w'.ownsRow B 29 11 vc' (s.chs ++ [x]).length (hCs (s.chs ++ [x]) (cs ++ [(va, vb)]))
    rw [hCs_app _ _ _ _ h.clen, List.length_append]
    exact hc
  · have hz' : (s.chs ++ [x])[i]? = some z := hz
    rcases Nat.lt_or_ge i s.chs.length with hi | hi
    · rw [List.getElem?_append_left hi] at hz'
      rw [List.getElem?_append_left (by rw [h.clen]; exact hi)] at hv
      obtain ⟨r1, r2⟩ := h.crow i z v hz' hv
      exact ⟨ho r1 (List.mem_append_left _ (List.mem_append_right _ (List.mem_map.2 ⟨v, List.mem_of_getElem? hv, rfl⟩))), ho r2 (List.mem_append_right _ (List.mem_map.2 ⟨v, List.mem_of_getElem? hv, rfl⟩))⟩
    · rw [List.getElem?_append_right hi] at hz'
      rw [List.getElem?_append_right (by rw [h.clen]; exact hi), h.clen] at hv
      have h0 : i - s.chs.length = 0 := by
        have := (List.getElem?_eq_some_iff.1 hz').1
        simp at this
        omega
      rw [h0] at hz' hv
      simp at hz' hv
      subst hz' hv
      exact ⟨ha, hb2⟩
  · refine nodup_two (L := _) h.nodup (blks_foot hlt) ?_ ha hb2 (by decide) hna hnb
    simp only [List.map_append, List.map_cons, List.map_nil, blks_app, List.append_assoc]
    refine (List.Perm.append_left _ (List.Perm.append_left _ ?_))
    rw [← List.append_assoc, ← List.append_assoc]
    exact List.Perm.append_right _ List.perm_append_comm
/-- an environment more, behind those that are there -/
theorem Stk.allocated (h : Stk w B p s ve vc ys cs) {vy ve' : Value} {x : En} {e : Int} {b : Nat} (hlt : ∀ g ∈ foot p ve vc ys cs, g < b)
    (hk : ∀ v ∈ vc :: ys ++ cs.map (·.1) ++ cs.map (·.2), ∀ g, v.ownBlock = some g → w'.heap[g]? = w.heap[g]?) (hb : Blk w' p 25 #[ve', .int .i64 e, vc])
    (hc : w'.ownsRow B 54 4 ve' (s.envs.length + 1) (eCs s.envs ys ++ eCs [x] [vy])) (ha : w'.ownsRow B 38 2 vy x.y.length (cCs x.y)) (hna : ∀ g, vy.ownBlock = some g → b ≤ g) :
    Stk w' B p ⟨s.envs ++ [x], e, s.chs⟩ ve' vc (ys ++ [vy]) cs := by
  have ho : ∀ {t size n : Nat} {v : Value} {xs : List Value}, w.ownsRow B t size v n xs → v ∈ vc :: ys ++ cs.map (·.1) ++ cs.map (·.2) → w'.ownsRow B t size v n xs := fun h1 hv => own_stay h1 fun g hg => hk _ hv g hg
  refine ⟨hb, h.low, ?_, ho h.chs (by simp), by simp [h.ylen], h.clen, fun i z v hz hv => ?_, fun i z v hz hv => ?_, ?_⟩
  · show w'.ownsRow B 54 4 ve' (s.envs ++ [x]).length (eCs (s.envs ++ [x]) (ys ++ [vy]))
    rw [eCs_app _ _ _ _ h.ylen, List.length_append]
    exact hc
  · have hz' : (s.envs ++ [x])[i]? = some z := hz
    rcases Nat.lt_or_ge i s.envs.length with hi | hi
    · rw [List.getElem?_append_left hi] at hz'
      rw [List.getElem?_append_left (by rw [h.ylen]; exact hi)] at hv
      exact ho (h.yrow i z v hz' hv) (by simp [List.mem_of_getElem? hv])
    · rw [List.getElem?_append_right hi] at hz'
      rw [List.getElem?_append_right (by rw [h.ylen]; exact hi), h.ylen] at hv
      have h0 : i - s.envs.length = 0 := by
        have := (List.getElem?_eq_some_iff.1 hz').1
        simp at this
        omega
      rw [h0] at hz' hv
      simp at hz' hv
      subst hz' hv
      exact ha
  · obtain ⟨r1, r2⟩ := h.crow i z v hz hv
    exact ⟨ho r1 (List.mem_append_left _ (List.mem_append_right _ (List.mem_map.2 ⟨v, List.mem_of_getElem? hv, rfl⟩))), ho r2 (List.mem_append_right _ (List.mem_map.2 ⟨v, List.mem_of_getElem? hv, rfl⟩))⟩
  · refine nodup_two (vb := .slice none 0 0) (tb := 2) (sb := 1) (m := 0) (ys := []) h.nodup (blks_foot hlt) ?_ ha (World.ownsRow_nil w' B 2 1) (by decide) hna (fun g hg => by cases hg)
    simp only [blks_app, List.append_assoc]
    refine List.Perm.append_left _ ?_
    have h0 : blks [Value.slice none 0 0] = [] := rfl
    rw [h0, List.append_nil, ← List.append_assoc (blks (List.map _ cs))]
    exact List.perm_append_comm
end
end Go.Proofs.Ytpkpffnabcgcbaa
