/-
  The iterator of Roots: held, its closure.
-/
import Derived.Test.YtpkpffnabcgcbaaFv
import Derived.RangeFuncNested
import Derived.RangeFuncBound
import Derived.RangeFuncCalls
import Derived.RangeFuncLeaves
import Derived.RangeFuncBox
import Derived.Shelf.Abstract
import Derived.Shelf.RegionOpen
import Derived.OwnWalkIn
import Derived.TacticsInMore
import Derived.LoopNIn
import Derived.LoopIn
import Derived.Maps.AppendAt
namespace Go.Proofs.Ytpkpffnabcgcbaa
open Go.RowKit Go.Shelf
attribute [local go_sem] Oper.semAt_some

def cellsE (l : List En) : List Cl := l.flatMap En.y
def cellsH (l : List Ch) : List Cl := l.flatMap Ch.args
/-- all cells that stacks hold -/
def rootsV (s : St) : List Cl := cellsE s.envs ++ cellsH s.chs
theorem drop_cons {α : Type} {l : List α} {i : Nat} {x : α} (h : l[i]? = some x) : l.drop i = x :: l.drop (i + 1) := by
  obtain ⟨hlt, hx⟩ := List.getElem?_eq_some_iff.1 h
  rw [List.drop_eq_getElem_cons hlt, hx]
/-- what the iterator wants kept -/
def KpB (n b : Nat) (A B : World) : Prop := Below n A B ∧ B.heap[b]? = A.heap[b]?
set_option maxRecDepth 100000 in
set_option maxHeartbeats 4000000 in
theorem held1_in (F : Fence) (n : Nat) (hf : F.fn 53) (hro : F.round = none) (hn : 1 ≤ n) (l Bs : Nat) {A A1 : Option Addr} {c c1 : Nat} {bx : Array Value} (s : St) (w0 W : World) (hS : StAt w0 A c A1 c1 s) (hle : s.envs.length ≤ 1000000000000) (hlc : s.chs.length ≤ 1000000000000) (hly : ∀ x ∈ s.envs, x.y.length ≤ 8796093022208) (hla : ∀ x ∈ s.chs, x.args.length ≤ 8796093022208) (J Jx : List Cl → World → Prop)
    (hAB : AbidesFrom W.heap.size J)
    (hY : ∀ pre x W, J pre W → pre.length < (rootsV s).length → YieldAt F (n - 1) Try.prog l #[.agg #[.int .i64 x.tag, .int .i64 x.n]] W fun e W' =>
      (e = .returned (.bool true) ∧ J (pre ++ [x]) W' ∧ KpB w0.heap.size Bs W W') ∨ (e = .returned (.bool false) ∧ Jx (pre ++ [x]) W'))
    (hW : Below w0.heap.size w0 W ∧ Blk W Bs 25 bx) (hbx0 : bx[0]? = some (.slice A s.envs.length c)) (hbx2 : bx[2]? = some (.slice A1 s.chs.length c1)) (h0 : J [] W) :
    CallsIn F n Try.prog 53 #[.func (.yield l) #[] #[], .pointer (some ⟨Bs, 0, none⟩)] W fun e W' => (∃ v, e = .returned v) ∧
      ((∃ ys, ys = rootsV s ∧ J ys W') ∨ (∃ pre, pre <+: rootsV s ∧ Jx pre W')) := by
  have HS := Lib.hid hS
  have HAB := Lib.hid hAB
  have HY := Lib.hid hY
  have HW := Lib.hid hW
  have HJ0 := Lib.hid h0
  have HLY := Lib.hid hly
  have HLA := Lib.hid hla
  have b0 := (hW.2.cell 0).trans hbx0
  have HX2 := Lib.hid hbx2
  clear hS hAB hY hW h0 hly hla hbx0 hbx2
  refine callsIn_of_wp Try.func53 rfl hf ?_ hro
  simp only [Try.ntmps53, List.size_toArray, List.length_cons, List.length_nil, Nat.reduceAdd, Nat.reduceSub, Array.replicate_succ, Array.replicate_zero, List.push_toArray, List.append_toArray, List.nil_append, List.cons_append]
  gi_wp2
  gi_loopw [14] (fun v wr => ∃ (i : Nat) (pre : List Cl), v = .int .i64 (i : Int) ∧ i ≤ s.envs.length ∧ Hid (J pre wr) ∧ Hid (pre ++ (cellsE (s.envs.drop i) ++ cellsH s.chs) = rootsV s) ∧ Hid (Below w0.heap.size w0 wr ∧ Blk wr Bs 25 bx)) (fun v _ => s.envs.length - (intOf v).toNat)
  case atStart => exact ⟨0, [], rfl, Nat.zero_le _, HJ0, Lib.hid rfl, HW⟩
  case round =>
    obtain ⟨i, pre, rfl, hi, HJ, HS1, HB⟩ := hrel
    by_cases hil : i < s.envs.length
    · obtain ⟨x, hx⟩ : ∃ x, s.envs[i]? = some x := ⟨_, List.getElem?_eq_getElem hil⟩
      obtain ⟨b, off, rfl, hb, hat⟩ := HS.out.envs (by omega)
      obtain ⟨Ay, cy, x0, x1, x2, x3, -, hca⟩ := hat i x hx
      have k : ∀ {o : Nat} {v : Value}, w0.cell? ⟨b, o, none⟩ = some v → wr.cell? ⟨b, o, none⟩ = some v := fun h => (HB.out.1.cell (p := ⟨b, _, none⟩) hb).trans h
      have y0 := k x0
      have y1 := k x1
      have y2 := k x2
      have y3 := k x3
      have HC := Lib.hid hca
      have hdr : s.envs.drop i = x :: s.envs.drop (i + 1) := drop_cons hx
      have HS2 := Lib.hid (show pre ++ (x.y ++ (cellsE (s.envs.drop (i + 1)) ++ cellsH s.chs)) = rootsV s by rw [← HS1.out, hdr]; simp [cellsE])
      have hyl := HLY.out x (List.mem_of_getElem? hx)
      have HJ1 := Lib.hid (HAB.out _ _ _ none HJ.out (World.grownBy_alloc wr (.cells #[.int .i64 x.prev, .int .i64 x.id, .int .i64 x.pc, .slice Ay x.y.length cy] 54) _) (fun r e => by cases e))
      have HB1 := Lib.hid (And.intro (HB.out.1.alloc HB.out.1.size (.cells #[.int .i64 x.prev, .int .i64 x.id, .int .i64 x.pc, .slice Ay x.y.length cy] 54)) (HB.out.2.alloc (.cells #[.int .i64 x.prev, .int .i64 x.id, .int .i64 x.pc, .slice Ay x.y.length cy] 54)))
      clear k x0 x1 x2 x3 hat hx hca hdr
      gi_wp2
      gi_loopw [21] (fun v wr => ∃ (k : Nat) (pre : List Cl), v = .int .i64 (k : Int) ∧ k ≤ x.y.length ∧ Hid (J pre wr) ∧ Hid (pre ++ (x.y.drop k ++ (cellsE (s.envs.drop (i + 1)) ++ cellsH s.chs)) = rootsV s) ∧ Hid (Below w0.heap.size w0 wr ∧ Blk wr Bs 25 bx)) (fun v _ => x.y.length - (intOf v).toNat)
      case atStart => exact ⟨0, pre, rfl, Nat.zero_le _, HJ1, Lib.hid (by rw [List.drop_zero]; exact HS2.out), HB1⟩
      case round =>
        obtain ⟨k, pre2, rfl, hk, HJ2, HS3, HB2⟩ := hrel
        by_cases hkl : k < x.y.length
        · obtain ⟨cl, hcl⟩ : ∃ cl, x.y[k]? = some cl := ⟨_, List.getElem?_eq_getElem hkl⟩
          have hdr : x.y.drop k = cl :: x.y.drop (k + 1) := drop_cons hcl
          obtain ⟨bc, oc, rfl, hbc, hcc⟩ := (HC.out.next HB2.out.1) (by omega)
          obtain ⟨c0, c1⟩ := hcc k cl hcl
          have hs4 : pre2 ++ [cl] ++ (x.y.drop (k + 1) ++ (cellsE (s.envs.drop (i + 1)) ++ cellsH s.chs)) = rootsV s := by rw [← HS3.out, hdr]; simp
          have HS4 := Lib.hid hs4
          have hlt : pre2.length < (rootsV s).length := by rw [← hs4]; simp
          obtain ⟨fn, tmps, assign, body, hy, hR⟩ := HY.out pre2 cl (wr.alloc (.cells #[.int .i64 cl.tag, .int .i64 cl.n] 38)) (HAB.out _ _ _ none HJ2.out (World.grownBy_alloc _ _ _) (fun r e => by cases e)) hlt
          have hBa := And.intro (HB2.out.1.alloc HB2.out.1.size (.cells #[.int .i64 cl.tag, .int .i64 cl.n] 38)) (HB2.out.2.alloc (.cells #[.int .i64 cl.tag, .int .i64 cl.n] 38))
          have HBa := Lib.hid hBa
          clear hdr hcl hcc hs4 hBa hlt
          gi_wp2
          refine hR.mono ?_
          rintro e W3 (⟨rfl, hJ3, hk3⟩ | ⟨rfl, hJx3⟩)
          · have HJ3 := Lib.hid hJ3
            have HB3 := Lib.hid (And.intro (HBa.out.1.trans hk3.1) (hk3.2.trans HBa.out.2))
            clear hJ3 hk3
            gi_wp2
            go_roundw
            case rel => exact ⟨k + 1, _, by go_num, by omega, HJ3, HS4, HB3⟩
            case measure => simp [intOf]; omega
          · gi_wp2
            refine bodyPost_ret (results_none rfl _ _ _) rfl ?_
            exact ⟨⟨_, rfl⟩, .inr ⟨_, ⟨_, HS4.out⟩, hJx3⟩⟩
        · have hdr : x.y.drop k = [] := List.drop_of_length_le (by omega)
          have HS4 := Lib.hid (show pre2 ++ (cellsE (s.envs.drop (i + 1)) ++ cellsH s.chs) = rootsV s by rw [← HS3.out, hdr]; rfl)
          clear hdr
          gi_wp2
          go_roundw
          case rel => exact ⟨i + 1, pre2, by go_num, by omega, HJ2, HS4, HB2⟩
          case measure => simp [intOf]; omega
    · have hdr : s.envs.drop i = [] := List.drop_of_length_le (by omega)
      have HS2 := Lib.hid (show pre ++ cellsH s.chs = rootsV s by rw [← HS1.out, hdr]; rfl)
      have b2 := (HB.out.2.cell 2).trans HX2.out
      clear hdr
      gi_wp2
      gi_loopw [34] (fun v wr => ∃ (i : Nat) (pre : List Cl), v = .int .i64 (i : Int) ∧ i ≤ s.chs.length ∧ Hid (J pre wr) ∧ Hid (pre ++ cellsH (s.chs.drop i) = rootsV s) ∧ Hid (Below w0.heap.size w0 wr ∧ Blk wr Bs 25 bx)) (fun v _ => s.chs.length - (intOf v).toNat)
      case atStart => exact ⟨0, pre, rfl, Nat.zero_le _, HJ, HS2, HB⟩
      case round =>
        clear b2 HS2 HB HS1 HJ
        obtain ⟨i, pre, rfl, hi, HJ, HS1, HB⟩ := hrel
        by_cases hil : i < s.chs.length
        · obtain ⟨x, hx⟩ : ∃ x, s.chs[i]? = some x := ⟨_, List.getElem?_eq_getElem hil⟩
          obtain ⟨b, off, rfl, hb, hat⟩ := HS.out.chs (by omega)
          obtain ⟨Aa, ca, Ab, cb, x0, x1, x2, x3, x4, x5, x6, x7, x8, x9, x10, -, -, hca, -⟩ := hat i x hx
          have k : ∀ {o : Nat} {v : Value}, w0.cell? ⟨b, o, none⟩ = some v → wr.cell? ⟨b, o, none⟩ = some v := fun h => (HB.out.1.cell (p := ⟨b, _, none⟩) hb).trans h
          have y0 := k x0
          have y1 := k x1
          have y2 := k x2
          have y3 := k x3
          have y4 := k x4
          have y5 := k x5
          have y6 := k x6
          have y7 := k x7
          have y8 := k x8
          have y9 := k x9
          have y10 := k x10
          have HC := Lib.hid hca
          have hdr : s.chs.drop i = x :: s.chs.drop (i + 1) := drop_cons hx
          have HS2 := Lib.hid (show pre ++ (x.args ++ cellsH (s.chs.drop (i + 1))) = rootsV s by rw [← HS1.out, hdr]; simp [cellsH])
          have hyl := HLA.out x (List.mem_of_getElem? hx)
          have HJ1 := Lib.hid (HAB.out _ _ _ none HJ.out (World.grownBy_alloc wr (.cells #[.int .i64 x.kind, .slice Aa x.args.length ca, .int .i64 x.env, .int .i64 x.id, .int .i64 x.pc, .int .i64 x.cut, .int .i64 x.mark, .int .i64 x.top, .int .i64 x.envs, .slice Ab x.alts.length cb, .int .i64 x.data] 29) _) (fun r e => by cases e))
          have HB1 := Lib.hid (And.intro (HB.out.1.alloc HB.out.1.size (.cells #[.int .i64 x.kind, .slice Aa x.args.length ca, .int .i64 x.env, .int .i64 x.id, .int .i64 x.pc, .int .i64 x.cut, .int .i64 x.mark, .int .i64 x.top, .int .i64 x.envs, .slice Ab x.alts.length cb, .int .i64 x.data] 29)) (HB.out.2.alloc (.cells #[.int .i64 x.kind, .slice Aa x.args.length ca, .int .i64 x.env, .int .i64 x.id, .int .i64 x.pc, .int .i64 x.cut, .int .i64 x.mark, .int .i64 x.top, .int .i64 x.envs, .slice Ab x.alts.length cb, .int .i64 x.data] 29)))
          clear k x0 x1 x2 x3 x4 x5 x6 x7 x8 x9 x10 hat hx hca hdr
          gi_wp2
          gi_loopw [41] (fun v wr => ∃ (k : Nat) (pre : List Cl), v = .int .i64 (k : Int) ∧ k ≤ x.args.length ∧ Hid (J pre wr) ∧ Hid (pre ++ (x.args.drop k ++ (cellsH (s.chs.drop (i + 1)))) = rootsV s) ∧ Hid (Below w0.heap.size w0 wr ∧ Blk wr Bs 25 bx)) (fun v _ => x.args.length - (intOf v).toNat)
          case atStart => exact ⟨0, pre, rfl, Nat.zero_le _, HJ1, Lib.hid (by rw [List.drop_zero]; exact HS2.out), HB1⟩
          case round =>
            obtain ⟨k, pre2, rfl, hk, HJ2, HS3, HB2⟩ := hrel
            by_cases hkl : k < x.args.length
            · obtain ⟨cl, hcl⟩ : ∃ cl, x.args[k]? = some cl := ⟨_, List.getElem?_eq_getElem hkl⟩
              have hdr : x.args.drop k = cl :: x.args.drop (k + 1) := drop_cons hcl
              obtain ⟨bc, oc, rfl, hbc, hcc⟩ := (HC.out.next HB2.out.1) (by omega)
              obtain ⟨c0, c1⟩ := hcc k cl hcl
              have hs4 : pre2 ++ [cl] ++ (x.args.drop (k + 1) ++ (cellsH (s.chs.drop (i + 1)))) = rootsV s := by rw [← HS3.out, hdr]; simp
              have HS4 := Lib.hid hs4
              have hlt : pre2.length < (rootsV s).length := by rw [← hs4]; simp
              obtain ⟨fn, tmps, assign, body, hy, hR⟩ := HY.out pre2 cl (wr.alloc (.cells #[.int .i64 cl.tag, .int .i64 cl.n] 38)) (HAB.out _ _ _ none HJ2.out (World.grownBy_alloc _ _ _) (fun r e => by cases e)) hlt
              have hBa := And.intro (HB2.out.1.alloc HB2.out.1.size (.cells #[.int .i64 cl.tag, .int .i64 cl.n] 38)) (HB2.out.2.alloc (.cells #[.int .i64 cl.tag, .int .i64 cl.n] 38))
              have HBa := Lib.hid hBa
              clear hdr hcl hcc hs4 hBa hlt
              gi_wp2
              refine hR.mono ?_
              rintro e W3 (⟨rfl, hJ3, hk3⟩ | ⟨rfl, hJx3⟩)
              · have HJ3 := Lib.hid hJ3
                have HB3 := Lib.hid (And.intro (HBa.out.1.trans hk3.1) (hk3.2.trans HBa.out.2))
                clear hJ3 hk3
                gi_wp2
                go_roundw
                case rel => exact ⟨k + 1, _, by go_num, by omega, HJ3, HS4, HB3⟩
                case measure => simp [intOf]; omega
              · gi_wp2
                refine bodyPost_ret (results_none rfl _ _ _) rfl ?_
                exact ⟨⟨_, rfl⟩, .inr ⟨_, ⟨_, HS4.out⟩, hJx3⟩⟩
            · have hdr : x.args.drop k = [] := List.drop_of_length_le (by omega)
              have HS4 := Lib.hid (show pre2 ++ (cellsH (s.chs.drop (i + 1))) = rootsV s by rw [← HS3.out, hdr]; rfl)
              clear hdr
              gi_wp2
              go_roundw
              case rel => exact ⟨i + 1, pre2, by go_num, by omega, HJ2, HS4, HB2⟩
              case measure => simp [intOf]; omega
        · have hdr : s.chs.drop i = [] := List.drop_of_length_le (by omega)
          have HS3 := Lib.hid (show pre = rootsV s by rw [← HS1.out, hdr]; simp [cellsH])
          clear hdr
          gi_wp2
          go_end0
          exact ⟨⟨_, rfl⟩, .inl ⟨pre, HS3.out, HJ.out⟩⟩
end Go.Proofs.Ytpkpffnabcgcbaa
