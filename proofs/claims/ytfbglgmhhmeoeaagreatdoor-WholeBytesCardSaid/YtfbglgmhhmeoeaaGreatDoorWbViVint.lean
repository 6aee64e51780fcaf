/- Numbers as bytes, seven bits a byte; numbers with a sign as numbers without. No condition. -/
import Derived.Test.YtfbglgmhhmeoeaaGreatDoorWbViNode
namespace Go.Vi
open Go.RowKit
set_option linter.unusedSimpArgs false
set_option linter.unusedVariables false
def wid (n : Nat) : Nat := if h : n = 0 then 0 else wid (n / 2) + 1
termination_by n
decreasing_by omega
theorem wid_zero : wid 0 = 0 := by rw [wid]; rfl
theorem wid_pos {n : Nat} (h : 0 < n) : wid n = wid (n / 2) + 1 := by rw [wid, dif_neg (by omega)]
theorem wid_le : ∀ (k n : Nat), n < 2 ^ k → wid n ≤ k
  | 0, n, h => by
    obtain rfl : n = 0 := by omega
    rw [wid_zero]; omega
  | k + 1, n, h => by
    by_cases h0 : n = 0
    · subst h0; rw [wid_zero]; omega
    · rw [wid_pos (by omega)]
      have := wid_le k (n / 2) (by rw [Nat.pow_succ] at h; omega)
      omega
theorem lt_wid : ∀ (n : Nat), n < 2 ^ wid n := by
  intro n
  induction n using Nat.strongRecOn with
  | _ n ih =>
    by_cases h0 : n = 0
    · subst h0; rw [wid_zero]; omega
    · rw [wid_pos (by omega), Nat.pow_succ]
      have := ih (n / 2) (by omega)
      omega
def vb (n : Nat) : List UInt8 := if h : n < 128 then [UInt8.ofNat n] else UInt8.ofNat (n % 128 + 128) :: vb (n / 128)
termination_by n
decreasing_by omega
theorem vb_lt {n : Nat} (h : n < 128) : vb n = [UInt8.ofNat n] := by rw [vb, dif_pos h]
theorem vb_ge {n : Nat} (h : 128 ≤ n) : vb n = UInt8.ofNat (n % 128 + 128) :: vb (n / 128) := by rw [vb, dif_neg (by omega)]
theorem vb_len : ∀ (k n : Nat), n < 128 ^ (k + 1) → (vb n).length ≤ k + 1
  | 0, n, h => by rw [vb_lt (by omega)]; simp
  | k + 1, n, h => by
    by_cases h0 : n < 128
    · rw [vb_lt h0]; simp
    · rw [vb_ge (by omega), List.length_cons]
      have := vb_len k (n / 128) (by rw [Nat.pow_succ] at h; omega)
      omega
theorem vb_ne (n : Nat) : vb n ≠ [] := by
  by_cases h : n < 128
  · rw [vb_lt h]; simp
  · rw [vb_ge (by omega)]; simp
theorem vb_len64 {n : Nat} (h : n < 18446744073709551616) : (vb n).length ≤ 10 := vb_len 9 n (Nat.lt_of_lt_of_le h (by decide))
theorem u8_nat {n : Nat} (h : n < 256) : (UInt8.ofNat n).toNat = n := by
  rw [UInt8.toNat_ofNat']; omega
def vgo (short : Bool) : List UInt8 → Nat → Nat → Nat × Nat × Int
  | [], _, _ => (0, 0, if short then 14 else 11)
  | c :: l, i, acc =>
    if 64 < 7 * i + wid (c.toNat % 128) then (0, 0, 11)
    else if c.toNat < 128 then (if c.toNat = 0 ∧ 0 < i then (0, 0, 11) else (acc + c.toNat % 128 * 2 ^ (7 * i), i + 1, 0))
    else vgo short l (i + 1) (acc + c.toNat % 128 * 2 ^ (7 * i))
def vget (b : List UInt8) (a : Nat) : Nat × Nat × Int := vgo (decide (b.length - a < 10)) ((b.drop a).take 10) 0 0
theorem vgo_le (short : Bool) : ∀ (l : List UInt8) (i acc : Nat), acc < 2 ^ (7 * i) → i + l.length ≤ 10 → acc < 18446744073709551616 →
    (vgo short l i acc).1 < 18446744073709551616 ∧ (vgo short l i acc).2.1 ≤ i + l.length ∧ ((vgo short l i acc).2.2 = 0 → i < (vgo short l i acc).2.1) ∧ ((vgo short l i acc).2.2 = 0 ∨ (vgo short l i acc).2.2 = 11 ∨ (vgo short l i acc).2.2 = 14)
  | [], i, acc, _, _, _ => by
    simp only [vgo]
    refine ⟨by omega, by omega, ?_, ?_⟩ <;> cases short <;> simp
  | c :: l, i, acc, h1, h2, h3 => by
    have hc := c.toNat_lt
    simp only [vgo]
    split
    · exact ⟨by simp, Nat.zero_le _, by simp, by simp⟩
    · rename_i hw
      have hb : c.toNat % 128 < 2 ^ (64 - 7 * i) := Nat.lt_of_lt_of_le (lt_wid _) (Nat.pow_le_pow_right (by omega) (by omega))
      have h7 : 7 * i ≤ 64 := by omega
      have hm : acc + c.toNat % 128 * 2 ^ (7 * i) < 18446744073709551616 := by
        have e : 2 ^ (64 - 7 * i) * 2 ^ (7 * i) = 18446744073709551616 := by rw [← Nat.pow_add, show 64 - 7 * i + 7 * i = 64 by omega]
        have : (c.toNat % 128 + 1) * 2 ^ (7 * i) ≤ 2 ^ (64 - 7 * i) * 2 ^ (7 * i) := Nat.mul_le_mul_right _ hb
        rw [Nat.add_mul, Nat.one_mul] at this
        omega
      split
      · split
        · exact ⟨by simp, Nat.zero_le _, by simp, by simp⟩
        · exact ⟨hm, by simp only [List.length_cons]; omega, by simp, by simp⟩
      · have hm2 : acc + c.toNat % 128 * 2 ^ (7 * i) < 2 ^ (7 * (i + 1)) := by
          rw [show 7 * (i + 1) = 7 * i + 7 by omega, Nat.pow_add]
          have : (c.toNat % 128 + 1) * 2 ^ (7 * i) ≤ 128 * 2 ^ (7 * i) := Nat.mul_le_mul_right _ (by omega)
          rw [Nat.add_mul, Nat.one_mul] at this
          have : 2 ^ (7 * i) * 2 ^ 7 = 128 * 2 ^ (7 * i) := by rw [Nat.mul_comm]
          omega
        obtain ⟨g1, g2, g3, g4⟩ := vgo_le short l (i + 1) _ hm2 (by simp only [List.length_cons] at h2; omega) hm
        exact ⟨g1, by simp only [List.length_cons]; omega, fun h => by have := g3 h; omega, g4⟩
theorem vget_le (b : List UInt8) (a : Nat) : (vget b a).1 < 18446744073709551616 ∧ a + (vget b a).2.1 ≤ max a b.length ∧ ((vget b a).2.2 = 0 → 0 < (vget b a).2.1) ∧ ((vget b a).2.2 = 0 ∨ (vget b a).2.2 = 11 ∨ (vget b a).2.2 = 14) := by
  have := vgo_le (decide (b.length - a < 10)) ((b.drop a).take 10) 0 0 (by simp) (by simp; omega) (by omega)
  obtain ⟨h1, h2, h3, h4⟩ := this
  refine ⟨h1, ?_, h3, h4⟩
  unfold vget
  simp only [List.length_take, List.length_drop] at h2
  omega
theorem vgo_vb (short : Bool) : ∀ (n : Nat) (r : List UInt8) (i acc : Nat), (0 < i → 0 < n) → acc + n * 2 ^ (7 * i) < 18446744073709551616 → i + (vb n).length ≤ 10 →
    vgo short ((vb n ++ r).take (10 - i)) i acc = (acc + n * 2 ^ (7 * i), i + (vb n).length, 0) := by
  intro n
  induction n using Nat.strongRecOn with
  | _ n ih =>
    intro r i acc h0 h1 h2
    have hpos : 0 < 2 ^ (7 * i) := Nat.two_pow_pos _
    have hwid : ∀ x, x ≤ n → i ≤ 9 → 7 * i + wid x ≤ 64 := by
      intro x hx hi
      have : x < 2 ^ (64 - 7 * i) := by
        refine Nat.lt_of_not_le fun hge => ?_
        have e : 2 ^ (64 - 7 * i) * 2 ^ (7 * i) = 18446744073709551616 := by rw [← Nat.pow_add, show 64 - 7 * i + 7 * i = 64 by omega]
        have h3 : 2 ^ (64 - 7 * i) * 2 ^ (7 * i) ≤ n * 2 ^ (7 * i) := Nat.mul_le_mul_right _ (by omega)
        omega
      have := wid_le _ _ this
      omega
    by_cases hn : n < 128
    · rw [vb_lt hn] at h2 ⊢
      simp only [List.length_cons, List.length_nil] at h2
      have e : ([UInt8.ofNat n] ++ r).take (10 - i) = UInt8.ofNat n :: r.take (9 - i) := by
        rw [show 10 - i = (9 - i) + 1 by omega]; rfl
      have hc : (UInt8.ofNat n).toNat = n := u8_nat (by omega)
      rw [e]
      simp only [vgo, hc, Nat.mod_eq_of_lt hn]
      rw [if_neg (by have := hwid n (Nat.le_refl _) (by omega); omega), if_pos hn, if_neg (by rintro ⟨rfl, h⟩; exact absurd (h0 h) (by omega))]
      simp
    · rw [vb_ge (by omega)] at h2 ⊢
      simp only [List.length_cons] at h2
      have e : (UInt8.ofNat (n % 128 + 128) :: vb (n / 128) ++ r).take (10 - i) = UInt8.ofNat (n % 128 + 128) :: (vb (n / 128) ++ r).take (10 - (i + 1)) := by
        rw [show 10 - i = (10 - (i + 1)) + 1 by omega]; rfl
      have hc : (UInt8.ofNat (n % 128 + 128)).toNat = n % 128 + 128 := u8_nat (by omega)
      have hc2 : (n % 128 + 128) % 128 = n % 128 := by omega
      have e2 : acc + n % 128 * 2 ^ (7 * i) + n / 128 * 2 ^ (7 * (i + 1)) = acc + n * 2 ^ (7 * i) := by
        have : 2 ^ (7 * (i + 1)) = 128 * 2 ^ (7 * i) := by
          rw [show 7 * (i + 1) = 7 + 7 * i by omega, Nat.pow_add]
        rw [this, ← Nat.mul_assoc, Nat.add_assoc, ← Nat.add_mul]
        congr 2
        omega
      rw [e]
      simp only [vgo, hc, hc2]
      have hne := vb_ne (n / 128)
      have hlp : 0 < (vb (n / 128)).length := List.length_pos_iff.2 hne
      rw [if_neg (by have := hwid (n % 128) (by omega) (by omega); omega), if_neg (by omega)]
      rw [ih (n / 128) (by omega) r (i + 1) _ (by omega) (by rw [e2]; exact h1) (by omega), e2]
      simp only [List.length_cons, Prod.mk.injEq, true_and, and_true]
      omega
theorem vget_vb {b r : List UInt8} {n a : Nat} (hn : n < 18446744073709551616) (hb : b.drop a = vb n ++ r) : vget b a = (n, (vb n).length, 0) := by
  unfold vget
  rw [hb]
  have := vgo_vb (decide (b.length - a < 10)) n r 0 0 (by omega) (by simpa using hn) (by have := vb_len64 hn; omega)
  simpa using this
def zig (n : Int) : Nat := if 0 ≤ n then 2 * n.toNat else 2 * (-n).toNat - 1
def zag (u : Nat) : Int := if u % 2 = 0 then ((u / 2 : Nat) : Int) else -((u / 2 : Nat) : Int) - 1
theorem zag_zig (n : Int) : zag (zig n) = n := by
  unfold zig
  split
  · rename_i h
    unfold zag
    rw [if_pos (by omega)]
    omega
  · rename_i h
    unfold zag
    rw [if_neg (by omega)]
    omega
theorem zig_lt {n : Int} (h : InI64 n) : zig n < 18446744073709551616 := by
  unfold InI64 at h
  unfold zig
  split <;> omega
theorem zig_bits {n : Int} (h : InI64 n) : IntKind.u64.wrap (BitVec.ofInt 64 (IntKind.u64.wrap (IntKind.u64.wrap n * 2 ^ (min (1 : Int).toNat 64))) ^^^ BitVec.ofInt 64 (IntKind.u64.wrap (n.fdiv (2 ^ (min (63 : Int).toNat 64))))).toNat = (zig n : Int) := by
  unfold InI64 at h
  have e1 : min (1 : Int).toNat 64 = 1 := by decide
  have e63 : min (63 : Int).toNat 64 = 63 := by decide
  rw [e1, e63]
  have hw : ∀ x : Int, IntKind.u64.wrap x = x % 18446744073709551616 := fun x => by
    simp [IntKind.wrap, IntKind.signed, IntKind.bits]
  by_cases h0 : 0 ≤ n
  · have hd : n.fdiv (2 ^ 63) = 0 := by
      rw [Int.fdiv_eq_ediv_of_nonneg _ (by decide)]
      exact Int.ediv_eq_zero_of_lt h0 (by omega)
    have ha : IntKind.u64.wrap (IntKind.u64.wrap n * 2 ^ 1) = 2 * n := by
      rw [hw, hw, Int.emod_eq_of_lt h0 (by omega), Int.emod_eq_of_lt (by omega) (by omega)]; omega
    rw [hd, ha]
    have hz : IntKind.u64.wrap 0 = 0 := by rw [hw]; rfl
    rw [hz]
    have hx : (BitVec.ofInt 64 (2 * n) ^^^ BitVec.ofInt 64 0).toNat = (2 * n).toNat := by
      rw [show BitVec.ofInt 64 0 = 0#64 from rfl, BitVec.xor_zero, BitVec.toNat_ofInt]
      omega
    rw [hx, hw]
    unfold zig
    rw [if_pos h0]
    omega
  · have hd : n.fdiv (2 ^ 63) = -1 := by
      rw [Int.fdiv_eq_ediv_of_nonneg _ (by decide)]
      omega
    have ha : IntKind.u64.wrap (IntKind.u64.wrap n * 2 ^ 1) = 2 * n + 18446744073709551616 := by
      rw [hw, hw]; omega
    rw [hd, ha]
    have hz : IntKind.u64.wrap (-1) = 18446744073709551615 := by rw [hw]; rfl
    rw [hz]
    have hx : (BitVec.ofInt 64 (2 * n + 18446744073709551616) ^^^ BitVec.ofInt 64 18446744073709551615).toNat = (-(2 * n) - 1).toNat := by
      rw [show BitVec.ofInt 64 18446744073709551615 = BitVec.allOnes 64 from by decide, BitVec.xor_allOnes, BitVec.toNat_not, BitVec.toNat_ofInt]
      omega
    rw [hx, hw]
    unfold zig
    rw [if_neg h0]
    omega
theorem zag_bits {u : Nat} (h : u < 18446744073709551616) : IntKind.i64.wrap (BitVec.ofInt 64 (IntKind.i64.wrap ((u : Int).fdiv (2 ^ (min (1 : Int).toNat 64)))) ^^^ BitVec.ofInt 64 (IntKind.i64.wrap (0 - IntKind.i64.wrap (IntKind.u64.wrap (BitVec.ofInt 64 (u : Int) &&& BitVec.ofInt 64 1).toNat)))).toNat = zag u := by
  have e1 : min (1 : Int).toNat 64 = 1 := by decide
  have hd : (u : Int).fdiv (2 ^ 1) = ((u / 2 : Nat) : Int) := by
    rw [Int.fdiv_eq_ediv_of_nonneg _ (by decide)]; omega
  have hand : (BitVec.ofInt 64 (u : Int) &&& BitVec.ofInt 64 1).toNat = u % 2 := by
    rw [BitVec.toNat_and, BitVec.toNat_ofInt, show (BitVec.ofInt 64 1).toNat = 1 from rfl]
    have : ((u : Int) % ((2 ^ 64 : Nat) : Int)).toNat = u := by omega
    rw [this, Nat.and_one_is_mod]
  have hu : IntKind.u64.wrap ((u % 2 : Nat) : Int) = ((u % 2 : Nat) : Int) := wr_u64 (by omega)
  rw [e1, hd, hand, hu, wr_i64 (n := ((u / 2 : Nat) : Int)) (by omega) (by omega), wr_i64 (n := ((u % 2 : Nat) : Int)) (by omega) (by omega), wr_i64 (n := 0 - ((u % 2 : Nat) : Int)) (by omega) (by omega)]
  unfold zag
  by_cases h0 : u % 2 = 0
  · rw [if_pos h0, h0]
    have hx : (BitVec.ofInt 64 ((u / 2 : Nat) : Int) ^^^ BitVec.ofInt 64 (0 - ((0 : Nat) : Int))).toNat = u / 2 := by
      rw [show BitVec.ofInt 64 (0 - ((0 : Nat) : Int)) = 0#64 from rfl, BitVec.xor_zero, BitVec.toNat_ofInt]
      omega
    rw [hx, wr_i64 (by omega) (by omega)]
  · have h1 : u % 2 = 1 := by omega
    rw [if_neg h0, h1]
    have hx : (BitVec.ofInt 64 ((u / 2 : Nat) : Int) ^^^ BitVec.ofInt 64 (0 - ((1 : Nat) : Int))).toNat = 18446744073709551615 - u / 2 := by
      rw [show BitVec.ofInt 64 (0 - ((1 : Nat) : Int)) = BitVec.allOnes 64 from by decide, BitVec.xor_allOnes, BitVec.toNat_not, BitVec.toNat_ofInt]
      omega
    rw [hx]
    have hw : ∀ x : Int, 9223372036854775808 ≤ x → x < 18446744073709551616 → IntKind.i64.wrap x = x - 18446744073709551616 := fun x h1 h2 => by
      simp [IntKind.wrap, IntKind.signed, IntKind.bits]
      omega
    rw [hw _ (by omega) (by omega)]
    omega
theorem or_add {a b i : Nat} (ha : a < 2 ^ i) (h : a + b * 2 ^ i < 18446744073709551616) : IntKind.u64.wrap (BitVec.ofInt 64 (a : Int) ||| BitVec.ofInt 64 ((b * 2 ^ i : Nat) : Int)).toNat = ((a + b * 2 ^ i : Nat) : Int) := by
  have h1 : (BitVec.ofInt 64 (a : Int)).toNat = a := by rw [BitVec.toNat_ofInt]; omega
  have h2 : (BitVec.ofInt 64 ((b * 2 ^ i : Nat) : Int)).toNat = b * 2 ^ i := by rw [BitVec.toNat_ofInt]; omega
  rw [BitVec.toNat_or, h1, h2, Nat.or_comm, ← Nat.shiftLeft_eq, ← Nat.shiftLeft_add_eq_or_of_lt ha, Nat.shiftLeft_eq, wr_u64 (by omega)]
  congr 1
  omega
end Go.Vi
