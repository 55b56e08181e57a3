/- The reference of the package proof: what reading a line in front of bytes answers. -/
import Derived.Test.YtkgkbaicjpgljaaPg
import Derived.Test.YtkgkbaicjpgljaaPj
namespace Go.Proofs.Ytkgkbaicjpgljaa
open Go.RowKit
set_option linter.unusedVariables false

def gb (b : List UInt8) (i : Nat) : Nat := (b.getD i 0).toNat
theorem gb_lt (b : List UInt8) (i : Nat) : gb b i < 256 := UInt8.toNat_lt _
def refTail (b : List UInt8) (l : Line) (p : Nat) : Option (Line × Nat) :=
  if 16 < gb b p ∨ b.length < p + 1 + 2 * gb b p then none
  else some ({ l with refs := (List.range (gb b p)).map fun i => ((256 * gb b (p + 1 + 2 * i) + gb b (p + 2 + 2 * i) : Nat) : Int) }, p + 1 + 2 * gb b p)
def refL (b : List UInt8) : Option (Line × Nat) :=
  if gb b 0 = 1 then
    if b.length < 4 then none else refTail b ⟨1, ((256 * gb b 1 + gb b 2 : Nat) : Int), false, 0, [], false, []⟩ 3
  else if (gb b 0 < 2 ∨ 4 < gb b 0) ∨ b.length < 5 ∨ 1 < gb b 1 ∨ 3 < gb b 4 ∨ b.length < 7 + gb b 4 then none
  else if 1 < gb b (5 + gb b 4) then none
  else refTail b ⟨b.getD 0 0, 0, gb b 1 == 1, ((256 * gb b 2 + gb b 3 : Nat) : Int), (b.drop 5).take (gb b 4), gb b (5 + gb b 4) == 1, []⟩ (6 + gb b 4)

def GetR (b : List UInt8) (w : World) (e : Ending) (w' : World) : Prop :=
  ∃ (cs : List Value) (n : Int) (ok : Bool), e = .returned (.tuple #[.agg cs.toArray, .int .i64 n, .bool ok]) ∧ Below w.heap.size w w' ∧
    ((refL b = none ∧ ok = false ∧ ∃ k d c i p f A m z, cs = [.int .u8 k, .int .i64 d, .bool c, .int .i64 i, .string p, .bool f, .slice A m z]) ∨ ∃ l k, refL b = some (l, k) ∧ ok = true ∧ n = (k : Nat) ∧ Rep.line.rd w' (fun x => w.heap.size ≤ x ∧ x < w'.heap.size) cs l)

theorem cells_bytes {b : List UInt8} {A : Option Addr} {n c : Nat} {w : World} {S : Nat → Prop} (hs : Rep.u8.sl w S A n c b) (hn : 0 < n) :
    ∃ B o, A = some ⟨B, o, none⟩ ∧ S B ∧ ∀ i, i < n → w.cell? ⟨B, o + i, none⟩ = some (.int .u8 (gb b i : Int)) := by
  obtain ⟨B, o, hA, hB, hr⟩ := hs.2.2.2 hn
  refine ⟨B, o, hA, hB, fun i hi => ?_⟩
  have hil : i < b.length := by have := hs.1; omega
  obtain ⟨es, he, hc⟩ := hr i b[i] (List.getElem?_eq_getElem hil)
  obtain rfl : es = [.int .u8 (b[i].toNat : Int)] := he
  have := hc 0 _ rfl
  rw [show Rep.u8.size = 1 from rfl, Nat.mul_one, Nat.add_zero] at this
  rw [this]
  simp [gb, List.getD, hil]
end Go.Proofs.Ytkgkbaicjpgljaa
