/- Numbers in decimal digits, in plain Lean. No condition. -/
import Derived.Test.YtdmoecehmclohaaGreatDoorSlViRow2
namespace Go.Vi
set_option linter.unusedSimpArgs false
set_option linter.unusedVariables false
def nd (u : Nat) : Nat := if u < 10 then 1 else nd (u / 10) + 1
termination_by u
decreasing_by omega
def fixd : Nat → Nat → List UInt8
  | 0, _ => []
  | k + 1, u => fixd k (u / 10) ++ [UInt8.ofNat (48 + u % 10)]
def dig (u : Nat) : List UInt8 := fixd (nd u) u
def digI (n : Int) : List UInt8 := if n < 0 then 45 :: dig n.natAbs else dig n.natAbs
theorem fixd_len : ∀ k u, (fixd k u).length = k
  | 0, _ => rfl
  | k + 1, u => by simp [fixd, fixd_len k]
theorem nd_lt {u : Nat} (h : u < 10) : nd u = 1 := by rw [nd, if_pos h]
theorem nd_ge {u : Nat} (h : ¬ u < 10) : nd u = nd (u / 10) + 1 := by rw [nd, if_neg h]
theorem nd_pos (u : Nat) : 1 ≤ nd u := by
  by_cases h : u < 10
  · rw [nd_lt h]; exact Nat.le_refl 1
  · rw [nd_ge h]; omega
theorem dig_lt {u : Nat} (h : u < 10) : dig u = [UInt8.ofNat (48 + u)] := by
  rw [dig, nd_lt h]; simp [fixd, Nat.mod_eq_of_lt h]
theorem dig_ge {u : Nat} (h : ¬ u < 10) : dig u = dig (u / 10) ++ dig (u % 10) := by
  rw [dig_lt (Nat.mod_lt u (by omega)), dig, nd_ge h, fixd, dig]
theorem dig_len (u : Nat) : (dig u).length = nd u := fixd_len _ _
theorem lt_nd (u : Nat) : u < 10 ^ nd u := by
  induction u using nd.induct with
  | case1 u h => rw [nd_lt h]; omega
  | case2 u h ih => rw [nd_ge h, Nat.pow_succ]; omega
theorem nd_le (u : Nat) (hu : 0 < u) : 10 ^ (nd u - 1) ≤ u := by
  induction u using nd.induct with
  | case1 u h => rw [nd_lt h]; simp; omega
  | case2 u h ih =>
    have h1 := ih (by omega)
    have h2 := nd_pos (u / 10)
    rw [nd_ge h, show nd (u / 10) + 1 - 1 = (nd (u / 10) - 1) + 1 by omega, Nat.pow_succ]; omega
theorem nd_eq {u k : Nat} (hk : 1 ≤ k) (h1 : 10 ^ (k - 1) ≤ u) (h2 : u < 10 ^ k) : nd u = k := by
  have hu : 0 < u := Nat.lt_of_lt_of_le (Nat.pow_pos (by omega)) h1
  have h3 := lt_nd u
  have h4 := nd_le u hu
  have h5 := nd_pos u
  have a : k - 1 < nd u := (Nat.pow_lt_pow_iff_right (by omega)).1 (Nat.lt_of_le_of_lt h1 h3)
  have b : nd u - 1 < k := (Nat.pow_lt_pow_iff_right (by omega)).1 (Nat.lt_of_le_of_lt h4 h2)
  omega
theorem fixd_add : ∀ (j k u : Nat), fixd (k + j) u = fixd k (u / 10 ^ j) ++ fixd j u
  | 0, k, u => by simp [fixd]
  | j + 1, k, u => by
    show fixd ((k + j) + 1) u = _
    simp only [fixd]
    rw [fixd_add j k (u / 10), Nat.div_div_eq_div_mul, show 10 * 10 ^ j = 10 ^ (j + 1) by rw [Nat.pow_succ]; omega, List.append_assoc]
def IsLen (u l : Nat) : Prop := 2 ^ (l - 1) ≤ u ∧ u < 2 ^ l ∧ 1 ≤ l
theorem len_dig : ∀ l : Fin 64, 2 ^ (l.val + 1) ≤ 10 ^ ((l.val + 1) * 78913 / 262144 + 1) ∧ ((l.val + 1) * 78913 / 262144 = 0 ∨ 10 ^ ((l.val + 1) * 78913 / 262144 - 1) ≤ 2 ^ l.val) ∧ (l.val + 1) * 78913 / 262144 ≤ 19 := by
  decide
theorem nd_len {u l : Nat} (h : IsLen u l) (hl : l ≤ 64) : nd u = l * 78913 / 262144 + (if 10 ^ (l * 78913 / 262144) ≤ u then 1 else 0) := by
  obtain ⟨h1, h2, h3⟩ := h
  have a := len_dig ⟨l - 1, by omega⟩
  simp only [show l - 1 + 1 = l by omega] at a
  obtain ⟨a1, a2, a3⟩ := a
  split
  · rename_i hc
    exact nd_eq (by omega) (by simpa using hc) (by omega)
  · rename_i hc
    have a4 : l * 78913 / 262144 ≠ 0 := by
      intro e
      rw [e] at hc
      have : 0 < 2 ^ (l - 1) := Nat.pow_pos (by omega)
      omega
    rw [Nat.add_zero]
    exact nd_eq (by omega) (by rcases a2 with a2 | a2; exact absurd a2 a4; omega) (by omega)
end Go.Vi
namespace Go.Vi
open Go.RowKit
set_option linter.unusedSimpArgs false
set_option linter.unusedVariables false
theorem wr_i64 {n : Int} (h1 : -9223372036854775808 ≤ n) (h2 : n ≤ 9223372036854775807) : IntKind.i64.wrap n = n := by
  by_cases h0 : 0 ≤ n
  · have e1 : n % (2 ^ 64 : Int) = n := Int.emod_eq_of_lt h0 (by omega)
    simp only [IntKind.wrap, IntKind.bits, IntKind.signed, e1]
    rw [if_neg]
    simp; omega
  · have e1 : n % (2 ^ 64 : Int) = n + 2 ^ 64 := by omega
    simp only [IntKind.wrap, IntKind.bits, IntKind.signed, e1]
    rw [if_pos]
    · omega
    · simp; omega
theorem wr_u64 {n : Nat} (h : n < 18446744073709551616) : IntKind.u64.wrap (n : Int) = n := by
  have e1 : (n : Int) % (2 ^ 64 : Int) = n := Int.emod_eq_of_lt (by omega) (by omega)
  simp only [IntKind.wrap, IntKind.bits, IntKind.signed, e1]
  simp
theorem wr_u32 {n : Nat} (h : n < 4294967296) : IntKind.u32.wrap (n : Int) = n := by
  have e1 : (n : Int) % (2 ^ 32 : Int) = n := Int.emod_eq_of_lt (by omega) (by omega)
  simp only [IntKind.wrap, IntKind.bits, IntKind.signed, e1]
  simp
theorem wr_u8 {n : Nat} (h : n < 256) : IntKind.u8.wrap (n : Int) = n := by
  have e1 : (n : Int) % (2 ^ 8 : Int) = n := Int.emod_eq_of_lt (by omega) (by omega)
  simp only [IntKind.wrap, IntKind.bits, IntKind.signed, e1]
  simp
theorem wr_u64z (n : Int) (h1 : -18446744073709551616 ≤ n) (h2 : n < 0) : IntKind.u64.wrap n = n + 18446744073709551616 := by
  have e1 : n % (2 ^ 64 : Int) = n + 2 ^ 64 := by omega
  simp only [IntKind.wrap, IntKind.bits, IntKind.signed, e1]
  simp
theorem bytes_one (l : List UInt8) : (cellsOfBytes l).all AV.one = true := by
  simp [cellsOfBytes, AV.one]
theorem bytes_len (l : List UInt8) : (cellsOfBytes l).length = l.length := by simp [cellsOfBytes]
theorem bytes_app (a b : List UInt8) : cellsOfBytes (a ++ b) = cellsOfBytes a ++ cellsOfBytes b := by simp [cellsOfBytes]
theorem bytesOf_cells : ∀ (l : List UInt8), bytesOfCells (cellsOfBytes l) = some l
  | [] => rfl
  | b :: l => by
    have ih := bytesOf_cells l
    simp only [cellsOfBytes, List.map_cons, bytesOfCells] at ih ⊢
    rw [ih]
    simp
def smallsL : List UInt8 := (List.range 100).flatMap fun v => [UInt8.ofNat (48 + v / 10), UInt8.ofNat (48 + v % 10)]
theorem smalls_at (x : Nat) (h : x < 100) : smallsL[x * 2]? = some (UInt8.ofNat (48 + x / 10)) ∧ smallsL[x * 2 + 1]? = some (UInt8.ofNat (48 + x % 10)) :=
  (show ∀ x : Fin 100, smallsL[x.val * 2]? = some (UInt8.ofNat (48 + x.val / 10)) ∧ smallsL[x.val * 2 + 1]? = some (UInt8.ofNat (48 + x.val % 10)) by decide +kernel) ⟨x, h⟩
theorem slsE {l h : Nat} {e : X → AV} {x y z : X} {b : ByteArray} {m : AMem} {k1 k2 : IntKind} (hx : e x = .s b) (hy : e y = .i k1 (l : Nat)) (hz : e z = .i k2 (h : Nat)) (h1 : l ≤ h) (h2 : h ≤ b.size) : execE (.sls x (some y) (some z)) e m = some (.s (b.extract l h), m) := by
  have hb : boundsX e b.size b.size (some y) (some z) none = some (l, h, b.size) := by
    simp only [boundsX, hy, hz, boundE]
    rw [if_pos ⟨by omega, by omega⟩]
    simp only [Int.toNat_natCast]
    rw [if_pos ⟨by omega, by omega⟩]
  simp only [execE, hx, hb]
theorem slaE {l h n esz j o : Nat} {e : X → AV} {x y z : X} {m : AMem} {k1 k2 : IntKind} (hx : e x = .p (some (j, o))) (hy : e y = .i k1 (l : Nat)) (hz : e z = .i k2 (h : Nat)) (h1 : l ≤ h) (h2 : h ≤ n) (h3 : l < n) : execE (.sla n esz x (some y) (some z)) e m = some (.sl (some (j, o + l * esz)) (h - l) (n - l) true, m) := by
  have hb : boundsX e n n (some y) (some z) none = some (l, h, n) := by
    simp only [boundsX, hy, hz, boundE]
    rw [if_pos ⟨by omega, by omega⟩]
    simp only [Int.toNat_natCast]
    rw [if_pos ⟨by omega, by omega⟩]
  simp only [execE, hx, hb]
  rw [if_neg (by omega)]
theorem slaE0 {h n esz j o : Nat} {e : X → AV} {x z : X} {m : AMem} {k2 : IntKind} (hx : e x = .p (some (j, o))) (hz : e z = .i k2 (h : Nat)) (h2 : h ≤ n) : execE (.sla n esz x none (some z)) e m = some (.sl (some (j, o)) h n true, m) := by
  have hb : boundsX e n n none (some z) none = some (0, h, n) := by
    simp only [boundsX, hz, boundE]
    rw [if_pos ⟨by omega, by omega⟩]
    simp
  simp only [execE, hx, hb, Nat.sub_zero, Nat.zero_mul, Nat.add_zero]
  simp
theorem strcat (a b : List UInt8) (h : a.length + b.length ≤ 4611686018427387904) : strBin .add ⟨a.toArray⟩ ⟨b.toArray⟩ = some (.s ⟨(a ++ b).toArray⟩) := by
  unfold strBin
  refine (if_neg ?_).trans ?_
  · show ¬ (((a.toArray.size + b.toArray.size : Nat) : Int) > 9223372036854775807)
    simp only [List.size_toArray]; omega
  · congr 2
theorem rd_splice {m : AMem} {j o : Nat} {c l : List AV} {wr : Bool} {es : ES} (h : m.get j = some (.cells (splice c o l) wr es)) (hl : o + l.length ≤ c.length) {n : Nat} (hn : n = l.length) : rd m j o n = some l := by
  subst hn
  have h1 := length_splice c o l hl
  simp only [rd, h]
  rw [if_pos (by omega)]
  congr 1
  have h2 : (c.take o).length = o := by rw [List.length_take]; omega
  simp only [splice]
  conv => lhs; rw [← List.append_assoc]
  rw [List.drop_append_of_le_length (by simp; omega), List.drop_append_of_le_length (by omega), List.drop_of_length_le (by omega), List.nil_append, List.take_left]
def isSt : VO → Bool
  | .st .. => true
  | _ => false
theorem splice_nil (c : List AV) (p : Nat) : splice c p [] = c := by simp [splice]
theorem splice_cons {c : List AV} {p : Nat} {l : List AV} (h : p + 1 + l.length ≤ c.length) (x : AV) : splice (splice c (p + 1) l) p [x] = splice c p (x :: l) := by
  refine List.ext_getElem? fun k => ?_
  have hl := length_splice c (p + 1) l h
  rw [get_splice _ _ _ (by simp only [List.length_cons, List.length_nil]; omega), get_splice _ _ _ h, get_splice _ _ _ (by simp only [List.length_cons]; omega)]
  simp only [List.length_cons, List.length_nil]
  by_cases h1 : p = k
  · subst h1
    rw [if_pos (by omega), if_pos (by omega)]
    simp
  · rw [if_neg (by omega)]
    by_cases h2 : p + 1 ≤ k ∧ k < p + 1 + l.length
    · rw [if_pos h2, if_pos (by omega), show k - p = (k - (p + 1)) + 1 by omega]
      simp
    · rw [if_neg h2, if_neg (by omega)]
section
variable {T : Nat → VFn} {nt : Nat} {Q : (Nat → AV) → AMem → Prop} {K : List KI} {g : Nat → AV} {m : AMem}
theorem W_opS {d : Option Nat} {vo : VO} {l : List VOper} {hh : Hist} (hc : vo.isCall = false) (_hb : isSt vo = false) (hd : dOk nt d = true) (h : Wo T nt Q (.o l (hh.push g m) :: K) g d (execE vo (X.at g) m)) : W T nt Q (.o (⟨d, none, vo⟩ :: l) hh :: K) g m := W_op hc hd h
theorem W_stc {a x : X} {j p q : Nat} {c L : List AV} {es : ES} {l : List VOper} (ha : X.at g a = .p (some (j, p))) (hx : (X.at g x).one = true) (hg : m.get j = some (.cells (splice c q L) true es)) (hq : q = p + 1) (hl : q + L.length ≤ c.length)
    (h : ∀ m', m'.get j = some (.cells (splice c p (X.at g x :: L)) true es) → Keep m m' [j] → m'.ds = m.ds → m'.ro = m.ro → W T nt Q (.o l .no :: K) g m') : W T nt Q (.o (⟨none, none, .st 1 a x⟩ :: l) .no :: K) g m := by
  subst hq
  refine W_op rfl rfl ?_
  have hle := length_splice c (p + 1) L hl
  simp only [execE, ha, hg, one_cells hx, List.length_cons, List.length_nil, List.all_cons, List.all_nil, hx, Bool.and_self, true_and]
  rw [if_pos (by omega)]
  simp only [Wo_some, push_no, upd_none, splice_cons hl]
  exact h _ (by rw [AMem.get_put, if_pos rfl]) (Keep.put _ _ _) rfl rfl
end
end Go.Vi
