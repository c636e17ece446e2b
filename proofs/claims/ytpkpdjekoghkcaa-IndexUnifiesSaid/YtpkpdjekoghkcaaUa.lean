/-
  Bindings of variables: when a slice reads as bindings; the search of a binding.
-/
import Derived.Test.YtpkpdjekoghkcaaTr
namespace Go.Proofs.Ytpkpdjekoghkcaa
open Go.RowKit

/-- a binding: the variable, the term, where its arguments lie -/
structure Bi where
  var : Int
  t : Tm
  A : Option Addr
  c : Nat
/-- a slice of bindings -/
structure BsAt (w : World) (F : Nat → Prop) (A : Option Addr) (bs : List Bi) : Prop where
  row : 0 < bs.length → ∃ b off, A = some ⟨b, off, none⟩ ∧ F b ∧ ∀ i x, bs[i]? = some x → w.cell? ⟨b, off + i * 5, none⟩ = some (.int .i64 x.var) ∧ TmCells w b (off + i * 5 + 1) x.t x.A x.c
  args : ∀ x ∈ bs, ArgsAt w F x.A x.t.args
theorem BsAt.keep {w w' : World} {F G : Nat → Prop} {A : Option Addr} {bs : List Bi} (h : BsAt w F A bs) (hk : ∀ b, F b → w'.heap[b]? = w.heap[b]?) (hG : ∀ b, F b → G b) : BsAt w' G A bs := by
  refine ⟨fun hl => ?_, fun x hx => (h.args x hx).keep hk hG⟩
  obtain ⟨b, off, e, hb, hc⟩ := h.row hl
  refine ⟨b, off, e, hG b hb, fun i x hx => ?_⟩
  obtain ⟨h0, h1, h2, h3, h4⟩ := hc i x hx
  have hcell : ∀ o, w'.cell? ⟨b, o, none⟩ = w.cell? ⟨b, o, none⟩ := fun o => World.cell?_of_block (w := w) (w' := w') (a := ⟨b, o, none⟩) (hk b hb)
  exact ⟨(hcell _).trans h0, (hcell _).trans h1, (hcell _).trans h2, (hcell _).trans h3, (hcell _).trans h4⟩
theorem BsAt.at {w : World} {F : Nat → Prop} {A : Option Addr} {bs : List Bi} (h : BsAt w F A bs) {i : Nat} (hi : i < bs.length) : ∃ b off x, A = some ⟨b, off, none⟩ ∧ F b ∧ bs[i]? = some x ∧ w.cell? ⟨b, off + i * 5, none⟩ = some (.int .i64 x.var) ∧ TmCells w b (off + i * 5 + 1) x.t x.A x.c ∧ ArgsAt w F x.A x.t.args := by
  obtain ⟨b, off, e, hb, hc⟩ := h.row (by omega)
  have hx : bs[i]? = some bs[i] := List.getElem?_eq_getElem hi
  obtain ⟨h1, h2⟩ := hc i _ hx
  exact ⟨b, off, _, e, hb, hx, h1, h2, h.args _ (List.mem_of_getElem? hx)⟩
theorem BsAt.nil (w : World) (F : Nat → Prop) (A : Option Addr) : BsAt w F A [] := ⟨fun h => absurd h (Nat.lt_irrefl _), fun x hx => by cases hx⟩
theorem BsAt.next {w w' : World} {A : Option Addr} {bs : List Bi} (h : BsAt w (Old w.heap.size) A bs) (hb : Below w.heap.size w w') : BsAt w' (Old w'.heap.size) A bs := h.keep (fun b hb' => hb.block b hb') (fun _ hb' => Nat.lt_of_lt_of_le hb' hb.size)
theorem ArgsAt.next {w w' : World} {A : Option Addr} {l : List Tm} (h : ArgsAt w (Old w.heap.size) A l) (hb : Below w.heap.size w w') : ArgsAt w' (Old w'.heap.size) A l := h.keep (fun b hb' => hb.block b hb') (fun _ hb' => Nat.lt_of_lt_of_le hb' hb.size)

/-- where a binding of a variable may be -/
def FindR (bs : List Bi) (v : Int) (k : Int) : Prop := k = -1 ∨ ∃ m : Nat, k = (m : Int) ∧ ∃ x, bs[m]? = some x ∧ x.var = v
set_option maxHeartbeats 1000000 in
theorem find_any {A : Option Addr} {c : Nat} (bs : List Bi) (v : Int) (w : World) (h : BsAt w (Old w.heap.size) A bs) (hl : bs.length ≤ 1000000000000) :
    Calls Try.prog 61 #[.slice A bs.length c, .int .i64 v] w fun e w' => (∃ k, e = .returned (.int .i64 k) ∧ FindR bs v k) ∧ w = w' := by
  have H := Lib.hid h
  clear h
  go_enter Try.func61, Try.ntmps61
  go_wp2_with fail
  go_loopw [5, 6] (fun a b wr => ∃ lo hi : Nat, lo ≤ hi ∧ hi ≤ bs.length ∧ a = .int .i64 (lo : Int) ∧ b = .int .i64 (hi : Int) ∧ wr = w) (fun a b _ => (intOf b).toNat - (intOf a).toNat)
  case atStart => exact ⟨0, bs.length, by omega, by omega, rfl, rfl, rfl⟩
  case round =>
    obtain ⟨lo, hi, hlh, hhl, rfl, rfl, rfl⟩ := hrel
    by_cases hlt : lo < hi
    · have hm : (lo + hi) / 2 < bs.length := by omega
      obtain ⟨b, off, x, rfl, hb, hx, h0, -, -⟩ := H.out.at hm
      have hq : Int.tdiv ((lo : Int) + (hi : Int)) 2 = (((lo + hi) / 2 : Nat) : Int) := by
        rw [Int.tdiv_eq_ediv_of_nonneg (by omega)]
        omega
      have hb' : b < wr.heap.size := hb
      clear hx
      go_wp2_with fail
      · exact ⟨⟨(lo + hi) / 2 + 1, hi, by omega, by omega, by go_num, rfl, by first | rfl | trivial⟩, by simp [intOf]; omega⟩
      · exact ⟨⟨lo, (lo + hi) / 2, by omega, by omega, rfl, by go_num, by first | rfl | trivial⟩, by simp [intOf]; omega⟩
    · by_cases hll : lo < bs.length
      · obtain ⟨b, off, x, rfl, hb, hx, h0, -, -⟩ := H.out.at hll
        have HX := Lib.hid hx
        have hb' : b < wr.heap.size := hb
        clear hx
        go_wp2_with fail
        all_goals go_ret
        · exact ⟨⟨_, rfl, .inr ⟨lo, rfl, x, HX.out, by simp_all⟩⟩, rfl⟩
        · exact ⟨⟨_, rfl, .inl rfl⟩, rfl⟩
      · go_wp2_with fail
        go_ret
        exact ⟨⟨_, rfl, .inl rfl⟩, rfl⟩
end Go.Proofs.Ytpkpdjekoghkcaa
