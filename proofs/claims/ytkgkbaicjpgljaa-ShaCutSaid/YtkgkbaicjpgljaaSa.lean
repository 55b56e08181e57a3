/- Words of 64 bits: how the walk writes their operations, and the functions that only compute with them. -/
import Derived.Test.YtkgkbaicjpgljaaProg
import Derived.Test.YtkgkbaicjpgljaaW
import Derived.Lib.Mul64
import Derived.Laws.Bits64b
namespace Go.Proofs.Ytkgkbaicjpgljaa
open Go.RowKit Go.Lib
set_option linter.unusedVariables false

/-- A word shifted up, and down, by so many places. -/
def sl (x : UInt64) (n : Nat) : UInt64 := UInt64.ofNat (x.toNat * 2 ^ n)
def sr (x : UInt64) (n : Nat) : UInt64 := UInt64.ofNat (x.toNat / 2 ^ n)

def wa (x y : UInt64) : UInt64 := x + y
def wx (x y : UInt64) : UInt64 := x ^^^ y
def wn (x y : UInt64) : UInt64 := x &&& y
def wo (x y : UInt64) : UInt64 := x ||| y
def wc (x : UInt64) : UInt64 := ~~~x

theorem wrap_word (n : Nat) : IntKind.u64.wrap (n : Int) = ((UInt64.ofNat n).toNat : Int) := by
  rw [IntKind.wrap_u64, UInt64.toNat_ofNat']
  omega
theorem word_of (x : UInt64) : UInt64.ofNat x.toNat = x := by simp
theorem word_lt (x : UInt64) : x.toNat < 18446744073709551616 := x.toNat_lt
theorem sr_nat (x : UInt64) (n : Nat) : (sr x n).toNat = x.toNat / 2 ^ n := by
  unfold sr
  rw [UInt64.toNat_ofNat']
  exact Nat.mod_eq_of_lt (Nat.lt_of_le_of_lt (Nat.div_le_self _ _) (word_lt x))

theorem u64_add (x y : UInt64) : Op.intArith .add .u64 (x.toNat : Int) (y.toNat : Int) = pure (.int .u64 ((wa x y).toNat : Int)) := by
  show pure (Value.int .u64 (IntKind.u64.wrap ((x.toNat : Int) + (y.toNat : Int)))) = pure (.int .u64 ((x + y).toNat : Int))
  rw [show (x.toNat : Int) + (y.toNat : Int) = ((x.toNat + y.toNat : Nat) : Int) by omega, wrap_word]
  congr 4
theorem bv_word (x : UInt64) : BitVec.ofInt 64 (x.toNat : Int) = x.toBitVec := by
  apply BitVec.eq_of_toNat_eq
  simp
theorem u64_xor (x y : UInt64) : Op.intBits .xor .u64 (x.toNat : Int) (y.toNat : Int) = pure (.int .u64 ((wx x y).toNat : Int)) := by
  show pure (Value.int .u64 (IntKind.u64.wrap ((BitVec.ofInt 64 (x.toNat : Int) ^^^ BitVec.ofInt 64 (y.toNat : Int)).toNat : Int))) = pure (.int .u64 ((x ^^^ y).toNat : Int))
  rw [bv_word, bv_word, wrap_word]
  congr 4
  apply UInt64.toNat_inj.1
  simp
theorem u64_and (x y : UInt64) : Op.intBits .and .u64 (x.toNat : Int) (y.toNat : Int) = pure (.int .u64 ((wn x y).toNat : Int)) := by
  show pure (Value.int .u64 (IntKind.u64.wrap ((BitVec.ofInt 64 (x.toNat : Int) &&& BitVec.ofInt 64 (y.toNat : Int)).toNat : Int))) = pure (.int .u64 ((x &&& y).toNat : Int))
  rw [bv_word, bv_word, wrap_word]
  congr 4
  apply UInt64.toNat_inj.1
  simp
theorem u64_or (x y : UInt64) : Op.intBits .or .u64 (x.toNat : Int) (y.toNat : Int) = pure (.int .u64 ((wo x y).toNat : Int)) := by
  show pure (Value.int .u64 (IntKind.u64.wrap ((BitVec.ofInt 64 (x.toNat : Int) ||| BitVec.ofInt 64 (y.toNat : Int)).toNat : Int))) = pure (.int .u64 ((x ||| y).toNat : Int))
  rw [bv_word, bv_word, wrap_word]
  congr 4
  apply UInt64.toNat_inj.1
  simp
theorem u64_shl (x : UInt64) (yk : IntKind) (n : Int) (h0 : 0 ≤ n) (h1 : n ≤ 63) : Op.shift .shl .u64 (x.toNat : Int) yk n = pure (.int .u64 ((sl x n.toNat).toNat : Int)) := by
  rw [shift_shl .u64 yk _ n h0 (by show n ≤ 64; omega)]
  rw [show (x.toNat : Int) * 2 ^ n.toNat = ((x.toNat * 2 ^ n.toNat : Nat) : Int) by simp, wrap_word]
  rfl
theorem u64_shr (x : UInt64) (yk : IntKind) (n : Int) (h0 : 0 ≤ n) (h1 : n ≤ 63) : Op.shift .shr .u64 (x.toNat : Int) yk n = pure (.int .u64 ((sr x n.toNat).toNat : Int)) := by
  rw [shift_shr .u64 yk _ n h0 (by show n ≤ 64; omega), sr_nat]
  simp
theorem ones_xor (x : UInt64) : wx 18446744073709551615 x = wc x := by
  apply UInt64.toBitVec_inj.1
  show (18446744073709551615#64) ^^^ x.toBitVec = ~~~x.toBitVec
  rw [show (18446744073709551615#64) = BitVec.allOnes 64 from by decide, BitVec.allOnes_xor]
theorem xor_ones (x : UInt64) : wx x 18446744073709551615 = wc x := by
  rw [← ones_xor]
  apply UInt64.toBitVec_inj.1
  exact BitVec.xor_comm _ _
theorem u64_not (x : UInt64) : Op.unary .xor (.int .u64 (x.toNat : Int)) = pure (.int .u64 ((wc x).toNat : Int)) := by
  rw [← ones_xor]
  exact u64_xor 18446744073709551615 x
theorem u64_xor1 (x : UInt64) : Op.intBits .xor .u64 (x.toNat : Int) 18446744073709551615 = pure (.int .u64 ((wc x).toNat : Int)) := by
  rw [← xor_ones]
  exact u64_xor x 18446744073709551615
theorem u64_byte (x : UInt64) : IntKind.u8.wrap (x.toNat : Int) = ((UInt8.ofNat x.toNat).toNat : Int) := by
  rw [IntKind.wrap_u8, UInt8.toNat_ofNat']
  omega
theorem byte_u64 (x : UInt8) : IntKind.u64.wrap (x.toNat : Int) = ((UInt64.ofNat x.toNat).toNat : Int) := wrap_word _

attribute [go_sem ↓] u64_not u64_xor1 u64_add u64_xor u64_and u64_or u64_shl u64_shr

/-- A word turned right. -/
def rotr (x : UInt64) (n : Nat) : UInt64 := wo (sl x (64 - n)) (sr x n)

theorem sr_bv (x : UInt64) (n : Nat) (hn : n < 64) : (sr x n).toBitVec = x.toBitVec >>> n := by
  apply BitVec.eq_of_toNat_eq
  rw [BitVec.toNat_ushiftRight, Nat.shiftRight_eq_div_pow]
  exact sr_nat x n
theorem sl_bv (x : UInt64) (n : Nat) (hn : n < 64) : (sl x n).toBitVec = x.toBitVec <<< n := by
  apply BitVec.eq_of_toNat_eq
  rw [BitVec.toNat_shiftLeft, Nat.shiftLeft_eq]
  show (UInt64.ofNat (x.toNat * 2 ^ n)).toNat = _
  rw [UInt64.toNat_ofNat']
  rfl
theorem rotr_add (x : UInt64) (n : Nat) (h0 : 0 < n) (h1 : n < 64) : wa (sr x n) (sl x (64 - n)) = rotr x n := by
  show sr x n + sl x (64 - n) = sl x (64 - n) ||| sr x n
  apply UInt64.toBitVec_inj.1
  rw [UInt64.toBitVec_add, UInt64.toBitVec_or, sr_bv x n h1, sl_bv x (64 - n) (by omega), BitVec.or_comm]
  refine BitVec.add_eq_or_of_and_eq_zero _ _ ?_
  apply BitVec.eq_of_getLsbD_eq
  intro i hi
  simp only [BitVec.getLsbD_and, BitVec.getLsbD_ushiftRight, BitVec.getLsbD_shiftLeft, BitVec.getLsbD_zero]
  by_cases h : i < 64 - n
  · simp [h]
  · rw [BitVec.getLsbD_of_ge x.toBitVec (n + i) (by omega)]
    simp

theorem turn_1 (x : UInt64) (w : World) :
    Calls Try.prog 48 #[.int .u64 (x.toNat : Int), .int .i64 1] w fun e w' => e = .returned (.int .u64 ((rotr x 1).toNat : Int)) ∧ w = w' := by
  have hb : bits .and .u64 (IntKind.u64.wrap (-1)) 63 = 63 := by decide
  go_enter Try.func48, Try.ntmps48
  go_wp2
  clear hb
  go_ret
  exact ⟨rfl, rfl⟩
theorem refturn_1 (x : UInt64) (w : World) :
    Calls Try.prog 37 #[.int .u64 (x.toNat : Int), .int .u64 1] w fun e w' => e = .returned (.int .u64 ((rotr x 1).toNat : Int)) ∧ w = w' := by
  have HR := Lib.hid (rotr_add x 1 (by decide) (by decide))
  go_enter Try.func37, Try.ntmps37
  go_wp2
  go_ret
  exact ⟨ret_int (by rw [HR.out]), rfl⟩
theorem turn_8 (x : UInt64) (w : World) :
    Calls Try.prog 48 #[.int .u64 (x.toNat : Int), .int .i64 8] w fun e w' => e = .returned (.int .u64 ((rotr x 8).toNat : Int)) ∧ w = w' := by
  have hb : bits .and .u64 (IntKind.u64.wrap (-8)) 63 = 56 := by decide
  go_enter Try.func48, Try.ntmps48
  go_wp2
  clear hb
  go_ret
  exact ⟨rfl, rfl⟩
theorem refturn_8 (x : UInt64) (w : World) :
    Calls Try.prog 37 #[.int .u64 (x.toNat : Int), .int .u64 8] w fun e w' => e = .returned (.int .u64 ((rotr x 8).toNat : Int)) ∧ w = w' := by
  have HR := Lib.hid (rotr_add x 8 (by decide) (by decide))
  go_enter Try.func37, Try.ntmps37
  go_wp2
  go_ret
  exact ⟨ret_int (by rw [HR.out]), rfl⟩
theorem turn_14 (x : UInt64) (w : World) :
    Calls Try.prog 48 #[.int .u64 (x.toNat : Int), .int .i64 14] w fun e w' => e = .returned (.int .u64 ((rotr x 14).toNat : Int)) ∧ w = w' := by
  have hb : bits .and .u64 (IntKind.u64.wrap (-14)) 63 = 50 := by decide
  go_enter Try.func48, Try.ntmps48
  go_wp2
  clear hb
  go_ret
  exact ⟨rfl, rfl⟩
theorem refturn_14 (x : UInt64) (w : World) :
    Calls Try.prog 37 #[.int .u64 (x.toNat : Int), .int .u64 14] w fun e w' => e = .returned (.int .u64 ((rotr x 14).toNat : Int)) ∧ w = w' := by
  have HR := Lib.hid (rotr_add x 14 (by decide) (by decide))
  go_enter Try.func37, Try.ntmps37
  go_wp2
  go_ret
  exact ⟨ret_int (by rw [HR.out]), rfl⟩
theorem turn_18 (x : UInt64) (w : World) :
    Calls Try.prog 48 #[.int .u64 (x.toNat : Int), .int .i64 18] w fun e w' => e = .returned (.int .u64 ((rotr x 18).toNat : Int)) ∧ w = w' := by
  have hb : bits .and .u64 (IntKind.u64.wrap (-18)) 63 = 46 := by decide
  go_enter Try.func48, Try.ntmps48
  go_wp2
  clear hb
  go_ret
  exact ⟨rfl, rfl⟩
theorem refturn_18 (x : UInt64) (w : World) :
    Calls Try.prog 37 #[.int .u64 (x.toNat : Int), .int .u64 18] w fun e w' => e = .returned (.int .u64 ((rotr x 18).toNat : Int)) ∧ w = w' := by
  have HR := Lib.hid (rotr_add x 18 (by decide) (by decide))
  go_enter Try.func37, Try.ntmps37
  go_wp2
  go_ret
  exact ⟨ret_int (by rw [HR.out]), rfl⟩
theorem turn_19 (x : UInt64) (w : World) :
    Calls Try.prog 48 #[.int .u64 (x.toNat : Int), .int .i64 19] w fun e w' => e = .returned (.int .u64 ((rotr x 19).toNat : Int)) ∧ w = w' := by
  have hb : bits .and .u64 (IntKind.u64.wrap (-19)) 63 = 45 := by decide
  go_enter Try.func48, Try.ntmps48
  go_wp2
  clear hb
  go_ret
  exact ⟨rfl, rfl⟩
theorem refturn_19 (x : UInt64) (w : World) :
    Calls Try.prog 37 #[.int .u64 (x.toNat : Int), .int .u64 19] w fun e w' => e = .returned (.int .u64 ((rotr x 19).toNat : Int)) ∧ w = w' := by
  have HR := Lib.hid (rotr_add x 19 (by decide) (by decide))
  go_enter Try.func37, Try.ntmps37
  go_wp2
  go_ret
  exact ⟨ret_int (by rw [HR.out]), rfl⟩
theorem turn_28 (x : UInt64) (w : World) :
    Calls Try.prog 48 #[.int .u64 (x.toNat : Int), .int .i64 28] w fun e w' => e = .returned (.int .u64 ((rotr x 28).toNat : Int)) ∧ w = w' := by
  have hb : bits .and .u64 (IntKind.u64.wrap (-28)) 63 = 36 := by decide
  go_enter Try.func48, Try.ntmps48
  go_wp2
  clear hb
  go_ret
  exact ⟨rfl, rfl⟩
theorem refturn_28 (x : UInt64) (w : World) :
    Calls Try.prog 37 #[.int .u64 (x.toNat : Int), .int .u64 28] w fun e w' => e = .returned (.int .u64 ((rotr x 28).toNat : Int)) ∧ w = w' := by
  have HR := Lib.hid (rotr_add x 28 (by decide) (by decide))
  go_enter Try.func37, Try.ntmps37
  go_wp2
  go_ret
  exact ⟨ret_int (by rw [HR.out]), rfl⟩
theorem turn_34 (x : UInt64) (w : World) :
    Calls Try.prog 48 #[.int .u64 (x.toNat : Int), .int .i64 34] w fun e w' => e = .returned (.int .u64 ((rotr x 34).toNat : Int)) ∧ w = w' := by
  have hb : bits .and .u64 (IntKind.u64.wrap (-34)) 63 = 30 := by decide
  go_enter Try.func48, Try.ntmps48
  go_wp2
  clear hb
  go_ret
  exact ⟨rfl, rfl⟩
theorem refturn_34 (x : UInt64) (w : World) :
    Calls Try.prog 37 #[.int .u64 (x.toNat : Int), .int .u64 34] w fun e w' => e = .returned (.int .u64 ((rotr x 34).toNat : Int)) ∧ w = w' := by
  have HR := Lib.hid (rotr_add x 34 (by decide) (by decide))
  go_enter Try.func37, Try.ntmps37
  go_wp2
  go_ret
  exact ⟨ret_int (by rw [HR.out]), rfl⟩
theorem turn_39 (x : UInt64) (w : World) :
    Calls Try.prog 48 #[.int .u64 (x.toNat : Int), .int .i64 39] w fun e w' => e = .returned (.int .u64 ((rotr x 39).toNat : Int)) ∧ w = w' := by
  have hb : bits .and .u64 (IntKind.u64.wrap (-39)) 63 = 25 := by decide
  go_enter Try.func48, Try.ntmps48
  go_wp2
  clear hb
  go_ret
  exact ⟨rfl, rfl⟩
theorem refturn_39 (x : UInt64) (w : World) :
    Calls Try.prog 37 #[.int .u64 (x.toNat : Int), .int .u64 39] w fun e w' => e = .returned (.int .u64 ((rotr x 39).toNat : Int)) ∧ w = w' := by
  have HR := Lib.hid (rotr_add x 39 (by decide) (by decide))
  go_enter Try.func37, Try.ntmps37
  go_wp2
  go_ret
  exact ⟨ret_int (by rw [HR.out]), rfl⟩
theorem turn_41 (x : UInt64) (w : World) :
    Calls Try.prog 48 #[.int .u64 (x.toNat : Int), .int .i64 41] w fun e w' => e = .returned (.int .u64 ((rotr x 41).toNat : Int)) ∧ w = w' := by
  have hb : bits .and .u64 (IntKind.u64.wrap (-41)) 63 = 23 := by decide
  go_enter Try.func48, Try.ntmps48
  go_wp2
  clear hb
  go_ret
  exact ⟨rfl, rfl⟩
theorem refturn_41 (x : UInt64) (w : World) :
    Calls Try.prog 37 #[.int .u64 (x.toNat : Int), .int .u64 41] w fun e w' => e = .returned (.int .u64 ((rotr x 41).toNat : Int)) ∧ w = w' := by
  have HR := Lib.hid (rotr_add x 41 (by decide) (by decide))
  go_enter Try.func37, Try.ntmps37
  go_wp2
  go_ret
  exact ⟨ret_int (by rw [HR.out]), rfl⟩
theorem turn_61 (x : UInt64) (w : World) :
    Calls Try.prog 48 #[.int .u64 (x.toNat : Int), .int .i64 61] w fun e w' => e = .returned (.int .u64 ((rotr x 61).toNat : Int)) ∧ w = w' := by
  have hb : bits .and .u64 (IntKind.u64.wrap (-61)) 63 = 3 := by decide
  go_enter Try.func48, Try.ntmps48
  go_wp2
  clear hb
  go_ret
  exact ⟨rfl, rfl⟩
theorem refturn_61 (x : UInt64) (w : World) :
    Calls Try.prog 37 #[.int .u64 (x.toNat : Int), .int .u64 61] w fun e w' => e = .returned (.int .u64 ((rotr x 61).toNat : Int)) ∧ w = w' := by
  have HR := Lib.hid (rotr_add x 61 (by decide) (by decide))
  go_enter Try.func37, Try.ntmps37
  go_wp2
  go_ret
  exact ⟨ret_int (by rw [HR.out]), rfl⟩
end Go.Proofs.Ytkgkbaicjpgljaa
