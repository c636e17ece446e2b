/-
  Plain: the examples of CodeKnown.
-/
import Derived.Test.YtbipeakinmbdiaaGreatDoorKu
namespace Go.Proofs.YtbipeakinmbdiaaGreatDoor
open Go.RowKit

def proceedB : Bk := { ruleB with code := [⟨16, 0, 0, 1, ⟨#[]⟩, 0⟩, ⟨1, (-1), 1, 0, ⟨#[]⟩, 0⟩, ⟨19, 0, 0, 0, ⟨#[113]⟩, 1⟩, ⟨12, (-1), 1, 0, ⟨#[]⟩, 0⟩, ⟨21, 0, 0, 0, ⟨#[]⟩, 0⟩, ⟨20, 0, 0, 0, ⟨#[114]⟩, 1⟩] }
set_option maxRecDepth 100000 in
theorem va_proceed : vaP proceedB = false := by decide +kernel
def missingB : Bk := ⟨1, ⟨#[112]⟩, 1, 0, 0, 0, ⟨#[]⟩, 0, [⟨15, 2, 0, 0, ⟨#[102]⟩, 2⟩, ⟨7, 1, 0, 0, ⟨#[]⟩, 0⟩, ⟨21, 0, 0, 0, ⟨#[]⟩, 0⟩]⟩
set_option maxRecDepth 100000 in
theorem va_missing : vaP missingB = false := by decide +kernel
def voidB : Bk := ⟨1, ⟨#[112]⟩, 1, 0, 0, 0, ⟨#[]⟩, 0, [⟨15, 2, 0, 0, ⟨#[102]⟩, 2⟩, ⟨10, 0, 0, 2, ⟨#[]⟩, 0⟩, ⟨21, 0, 0, 0, ⟨#[]⟩, 0⟩]⟩
set_option maxRecDepth 100000 in
theorem va_void : vaP voidB = true := by decide +kernel
def overB : Bk := ⟨1, ⟨#[112]⟩, 1, 0, 0, 0, ⟨#[]⟩, 0, [⟨15, 2, 0, 0, ⟨#[102]⟩, 2⟩, ⟨10, 0, 0, 3, ⟨#[]⟩, 0⟩, ⟨21, 0, 0, 0, ⟨#[]⟩, 0⟩]⟩
set_option maxRecDepth 100000 in
theorem va_over : vaP overB = false := by decide +kernel
def selfB : Bk := ⟨1, ⟨#[112]⟩, 1, 0, 0, 0, ⟨#[]⟩, 0, [⟨15, 2, 0, 0, ⟨#[102]⟩, 1⟩, ⟨7, 2, 0, 0, ⟨#[]⟩, 0⟩, ⟨21, 0, 0, 0, ⟨#[]⟩, 0⟩]⟩
set_option maxRecDepth 100000 in
theorem va_self : vaP selfB = false := by decide +kernel
def lateB : Bk := { ruleB with code := [⟨16, 0, 0, 1, ⟨#[]⟩, 0⟩, ⟨1, (-1), 1, 0, ⟨#[]⟩, 0⟩, ⟨19, 0, 0, 0, ⟨#[113]⟩, 1⟩, ⟨22, 1, 0, 0, ⟨#[]⟩, 0⟩, ⟨18, 0, 0, 0, ⟨#[]⟩, 0⟩, ⟨20, 0, 0, 0, ⟨#[114]⟩, 1⟩] }
set_option maxRecDepth 100000 in
theorem va_late : vaP lateB = false := by decide +kernel
def earlyB : Bk := { ruleB with code := [⟨16, 0, 0, 1, ⟨#[]⟩, 0⟩, ⟨22, (-1), 0, 0, ⟨#[]⟩, 0⟩, ⟨19, 0, 0, 0, ⟨#[113]⟩, 1⟩, ⟨12, (-1), 1, 0, ⟨#[]⟩, 0⟩, ⟨18, 0, 0, 0, ⟨#[]⟩, 0⟩, ⟨20, 0, 0, 0, ⟨#[114]⟩, 1⟩] }
set_option maxRecDepth 100000 in
theorem va_early : vaP earlyB = true := by decide +kernel
def trimB : Bk := { ruleB with code := [⟨16, 0, 0, 1, ⟨#[]⟩, 0⟩, ⟨1, (-1), 1, 0, ⟨#[]⟩, 0⟩, ⟨17, 0, 0, 0, ⟨#[]⟩, 0⟩, ⟨12, (-1), 1, 0, ⟨#[]⟩, 0⟩, ⟨18, 0, 0, 0, ⟨#[]⟩, 0⟩, ⟨20, 0, 0, 0, ⟨#[114]⟩, 1⟩] }
set_option maxRecDepth 100000 in
theorem va_trim : vaP trimB = false := by decide +kernel
def trimmedB : Bk := { ruleB with code := [⟨16, 0, 0, 1, ⟨#[]⟩, 0⟩, ⟨1, (-1), 1, 0, ⟨#[]⟩, 0⟩, ⟨17, 0, 0, 1, ⟨#[]⟩, 0⟩, ⟨12, (-1), 1, 0, ⟨#[]⟩, 0⟩, ⟨18, 0, 0, 0, ⟨#[]⟩, 0⟩, ⟨20, 0, 0, 0, ⟨#[114]⟩, 1⟩] }
set_option maxRecDepth 100000 in
theorem va_trimmed : vaP trimmedB = true := by decide +kernel
theorem va_zero : vaP zBk = false := by decide +kernel
def oddB : Bk := ⟨8589934592, ⟨#[]⟩, 2, 7, 3, 0, ⟨#[97, 32, 34, 92, 10, 255]⟩, 3, [⟨3, 0, 2, (-9223372036854775808), ⟨#[]⟩, 0⟩, ⟨5, 0, 1, 0, ⟨#[]⟩, 1⟩, ⟨6, 3, 0, 0, ⟨#[]⟩, 0⟩, ⟨23, 4, 0, 0, ⟨#[]⟩, 0⟩, ⟨24, 4, 0, 0, ⟨#[]⟩, 0⟩, ⟨20, 0, 0, 9, ⟨#[]⟩, 2⟩]⟩
def oddT : List UInt8 := [98, 108, 111, 99, 107, 32, 56, 53, 56, 57, 57, 51, 52, 53, 57, 50, 32, 35, 55, 47, 50, 32, 34, 97, 32, 92, 120, 50, 50, 92, 120, 53, 99, 92, 120, 48, 97, 92, 120, 102, 102, 34, 47, 51, 10, 103, 101, 116, 95, 105, 110, 116, 32, 88, 50, 32, 45, 57, 50, 50, 51, 51, 55, 50, 48, 51, 54, 56, 53, 52, 55, 55, 53, 56, 48, 56, 10, 103, 101, 116, 95, 115, 116, 114, 117, 99, 116, 32, 88, 49, 32, 34, 34, 47, 49, 10, 97, 114, 103, 95, 118, 97, 114, 32, 88, 51, 10, 109, 97, 114, 107, 32, 88, 52, 10, 99, 117, 116, 32, 88, 52, 10, 101, 120, 101, 99, 117, 116, 101, 32, 35, 57, 47, 50, 10]
set_option maxRecDepth 100000 in
theorem va_odd : vaP oddB = true := by decide +kernel
set_option maxRecDepth 100000 in
theorem text_odd : textL oddB = oddT := by decide +kernel
set_option maxRecDepth 100000 in
theorem textV_odd : textV oddB = (oddT, 0) := by rw [textV_ok va_odd, text_odd, if_neg (by decide)]
theorem rg_odd : RgB oddB := ⟨by unfold inR oddB; decide, fun x hx => by
  simp only [oddB, List.mem_cons, List.not_mem_nil, or_false] at hx
  rcases hx with rfl | rfl | rfl | rfl | rfl | rfl <;> (unfold inR; decide)⟩
/-- texts that are none, with the line at fault -/
def knownL : List (List UInt8 × Int) := [([98, 108, 111, 99, 107, 32, 49, 32, 34, 112, 34, 47, 48, 32, 48, 49, 10, 112, 114, 111, 99, 101, 101, 100, 10], 1), ([98, 108, 111, 99, 107, 32, 49, 32, 34, 112, 34, 47, 48, 32, 95, 10, 103, 101, 116, 95, 118, 97, 108, 32, 88, 48, 32, 88, 49, 10], 2), ([98, 108, 111, 99, 107, 32, 49, 32, 34, 112, 34, 47, 48, 32, 95, 10, 112, 114, 111, 99, 101, 101, 100, 10, 10], 3), ([98, 108, 111, 99, 107, 32, 49, 32, 34, 92, 120, 52, 49, 34, 47, 48, 32, 95, 10, 112, 114, 111, 99, 101, 101, 100, 10], 1), ([98, 108, 111, 99, 107, 32, 49, 32, 34, 112, 34, 47, 48, 32, 95, 10, 103, 101, 116, 95, 105, 110, 116, 32, 88, 49, 32, 57, 50, 50, 51, 51, 55, 50, 48, 51, 54, 56, 53, 52, 55, 55, 53, 56, 48, 56, 10], 2), ([98, 108, 111, 99, 107, 32, 49, 32, 34, 112, 34, 47, 48, 32, 95, 10, 103, 101, 116, 95, 105, 110, 116, 32, 88, 49, 32, 45, 48, 10, 112, 114, 111, 99, 101, 101, 100, 10], 2), ([98, 108, 111, 99, 107, 32, 49, 32, 34, 112, 34, 47, 48, 32, 95, 10, 112, 114, 111, 99, 101, 101, 100, 32, 10], 2), ([98, 108, 111, 99, 107, 32, 49, 32, 34, 112, 34, 47, 48, 32, 32, 95, 10, 112, 114, 111, 99, 101, 101, 100, 10], 1), ([98, 108, 111, 99, 107, 32, 49, 32, 34, 112, 34, 47, 57, 32, 95, 10, 112, 114, 111, 99, 101, 101, 100, 10], 1), ([98, 108, 111, 99, 107, 32, 48, 32, 34, 112, 34, 47, 48, 32, 95, 10, 112, 114, 111, 99, 101, 101, 100, 10], 1), ([98, 108, 111, 99, 107, 32, 49, 32, 34, 112, 34, 47, 48, 32, 95, 10, 112, 114, 111, 99, 101, 101, 100], 2), ([98, 108, 111, 99, 107, 32, 49, 32, 34, 112, 34, 47, 48, 32, 95], 1), ([], 1)]
set_option maxRecDepth 100000 in
theorem known_all : ∀ p ∈ knownL, parseV p.1 = (zBk, p.2, 3) := by decide +kernel
set_option maxRecDepth 100000 in
theorem known_len : ∀ p ∈ knownL, p.1.length ≤ 100 := by decide +kernel
def headT : List UInt8 := [98, 108, 111, 99, 107, 32, 49, 32, 34, 112, 34, 47, 48, 32, 95, 10]
set_option maxRecDepth 100000 in
theorem parse_headT : parseV headT = (zBk, 0, 1) := by decide +kernel
def lastT : List UInt8 := [98, 108, 111, 99, 107, 32, 49, 32, 34, 112, 34, 47, 48, 32, 95, 10, 112, 114, 111, 99, 101, 101, 100, 10]
set_option maxRecDepth 100000 in
theorem parse_lastT : (parseV lastT).1.code.length = 1 ∧ (parseV lastT).2.2 = 0 := by decide +kernel
theorem parse_long0 (l : List UInt8) (h : l.length = 16385) : parseV l = (zBk, 0, 2) := by unfold parseV; rw [if_pos (by omega)]
theorem rd_24 : rdOf ⟨24, 0, 0, 0, ⟨#[]⟩, 0⟩ = [] := by decide +kernel
end Go.Proofs.YtbipeakinmbdiaaGreatDoor
