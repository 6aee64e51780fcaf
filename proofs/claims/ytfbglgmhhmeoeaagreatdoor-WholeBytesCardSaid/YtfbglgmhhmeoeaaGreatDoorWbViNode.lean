/- The calculus W: where a guard isn't known, both ways. No condition. -/
import Derived.Test.YtfbglgmhhmeoeaaGreatDoorWbViBld
import Derived.Test.YtfbglgmhhmeoeaaGreatDoorWbViStart
namespace Go.Vi
open Go.RowKit
set_option linter.unusedSimpArgs false
set_option linter.unusedVariables false
theorem one_s (x : ByteArray) : (AV.s x).one = true := rfl
theorem one_p (a : Option (Nat × Nat)) : (AV.p a).one = true := rfl
theorem one_sl (a : Option (Nat × Nat)) (l c : Nat) (e : Bool) : (AV.sl a l c e).one = true := rfl
theorem one_es : AV.es.one = true := rfl
theorem one_ni : AV.ni.one = true := rfl
theorem one_ifc (t : Nat) (v : AV) : (AV.ifc t v).one = true := rfl
theorem cells_s (x : ByteArray) : (AV.s x).cells = [.s x] := rfl
theorem cells_p (a : Option (Nat × Nat)) : (AV.p a).cells = [.p a] := rfl
theorem cells_sl (a : Option (Nat × Nat)) (l c : Nat) (e : Bool) : (AV.sl a l c e).cells = [.sl a l c e] := rfl
theorem cells_ni : AV.ni.cells = [.ni] := rfl
theorem cells_ifc (t : Nat) (v : AV) : (AV.ifc t v).cells = [.ifc t v] := rfl
def toB : AV → Bool
  | .b x => x
  | _ => false
theorem toB_b (x : Bool) : toB (.b x) = x := rfl
section
variable {T : Nat → VFn} {nt : Nat} {Q : (Nat → AV) → AMem → Prop} {K : List KI} {g : Nat → AV} {m : AMem}
theorem W_opgST {d : Option Nat} {t : Nat} {vo : VO} {l : List VOper} {hh : Hist} (hc : vo.isCall = false) (hd : dOk nt d = true) (hg : g t = .b (toB (g t))) (h1 : toB (g t) = true → Wo T nt Q (.o l (hh.push g m) :: K) g d (execE vo (X.at g) m)) (h2 : toB (g t) = false → W T nt Q (.o l (hh.push g m) :: K) (upd g d un) m) : W T nt Q (.o (⟨d, some (t, true), vo⟩ :: l) hh :: K) g m :=
  W_opg hc hd hg h1 (fun h => h2 (by simpa using h))
theorem W_opgSF {d : Option Nat} {t : Nat} {vo : VO} {l : List VOper} {hh : Hist} (hc : vo.isCall = false) (hd : dOk nt d = true) (hg : g t = .b (toB (g t))) (h2 : toB (g t) = true → W T nt Q (.o l (hh.push g m) :: K) (upd g d un) m) (h1 : toB (g t) = false → Wo T nt Q (.o l (hh.push g m) :: K) g d (execE vo (X.at g) m)) : W T nt Q (.o (⟨d, some (t, false), vo⟩ :: l) hh :: K) g m :=
  W_opg hc hd hg h1 (fun h => h2 (by simpa using h))
theorem W_callGT {d : Option Nat} {t : Nat} {f : Nat} {xs : List X} {args : List AV} {l : List VOper} {hh : Hist} {R : AV → AMem → Prop} (hd : dOk nt d = true) (hg : g t = .b (toB (g t))) (ha : xs.map (X.at g) = args) (hr : Vi.Call T f args m R)
    (h1 : toB (g t) = true → ∀ v m', R v m' → Same m' m → W T nt Q (.o l (hh.push g m) :: K) (upd g d v) m') (h2 : toB (g t) = false → W T nt Q (.o l (hh.push g m) :: K) (upd g d un) m) : W T nt Q (.o (⟨d, some (t, true), .call f xs⟩ :: l) hh :: K) g m :=
  W_callG hd hg ha (fun _ => hr) (fun v m' hc => h1 hc v m') (fun h => h2 (by simpa using h))
theorem W_callGF {d : Option Nat} {t : Nat} {f : Nat} {xs : List X} {args : List AV} {l : List VOper} {hh : Hist} {R : AV → AMem → Prop} (hd : dOk nt d = true) (hg : g t = .b (toB (g t))) (ha : xs.map (X.at g) = args) (hr : Vi.Call T f args m R)
    (h2 : toB (g t) = true → W T nt Q (.o l (hh.push g m) :: K) (upd g d un) m) (h1 : toB (g t) = false → ∀ v m', R v m' → Same m' m → W T nt Q (.o l (hh.push g m) :: K) (upd g d v) m') : W T nt Q (.o (⟨d, some (t, false), .call f xs⟩ :: l) hh :: K) g m :=
  W_callG hd hg ha (fun _ => hr) (fun v m' hc => h1 hc v m') (fun h => h2 (by simpa using h))
theorem W_opA {d : Option Nat} {vo : VO} {l : List VOper} {hh : Hist} (hc : vo.isCall = false) (_hb : (match vo with | .app .. => true | _ => false) = false) (hd : dOk nt d = true) (h : Wo T nt Q (.o l (hh.push g m) :: K) g d (execE vo (X.at g) m)) : W T nt Q (.o (⟨d, none, vo⟩ :: l) hh :: K) g m := W_op hc hd h
theorem W_callK {d : Option Nat} {t : Nat} {b : Bool} {f : Nat} {xs : List X} {args : List AV} {l : List VOper} {hh : Hist} {R : AV → AMem → Prop} (hd : dOk nt d = true) (hg : g t = .b b) (ha : xs.map (X.at g) = args) (hr : Vi.Call T f args m R)
    (h1 : ∀ v m', R v m' → Same m' m → W T nt Q (.o l (hh.push g m) :: K) (upd g d v) m') : W T nt Q (.o (⟨d, some (t, b), .call f xs⟩ :: l) hh :: K) g m :=
  W_callG hd hg ha (fun _ => hr) (fun v m' _ => h1 v m') (fun h => absurd rfl h)
theorem W_opgU {d : Option Nat} {t : Nat} {b : Bool} {vo : VO} {l : List VOper} {hh : Hist} (hd : dOk nt d = true) (hg : g t = un) (h2 : W T nt Q (.o l (hh.push g m) :: K) (upd g d un) m) : W T nt Q (.o (⟨d, some (t, b), vo⟩ :: l) hh :: K) g m := by
  obtain ⟨r', hr', hf⟩ := h2
  obtain ⟨r, hr0, rfl⟩ := Agree.unset (dOk_spec hd) hr'
  refine ⟨r, hr0, W_step (n := 0) hr0 ?_ hf⟩
  unfold stepO
  rw [if_neg (by simp only [wants, hr0.2 t, hg]; simp)]
theorem W_callN {d : Option Nat} {t : Nat} {b : Bool} {f : Nat} {xs : List X} {l : List VOper} {hh : Hist} (hd : dOk nt d = true) (hg : g t = .b (!b)) (h2 : W T nt Q (.o l (hh.push g m) :: K) (upd g d un) m) : W T nt Q (.o (⟨d, some (t, b), .call f xs⟩ :: l) hh :: K) g m := by
  obtain ⟨r', hr', hf⟩ := h2
  obtain ⟨r, hr0, rfl⟩ := Agree.unset (dOk_spec hd) hr'
  refine ⟨r, hr0, W_step (n := 0) hr0 ?_ hf⟩
  unfold stepO
  rw [if_neg (by simp only [wants, hr0.2 t, hg]; cases b <;> simp)]
end
theorem Arr.rdE {m : AMem} {e n : Nat} {av : AV} {l : List AV} (h : Arr m e av n l) {i : Nat} (hi : i < n) : ∃ j o cap ex, av = .sl (some (j, o)) n cap ex ∧ j < m.next ∧ rd m j (o + i * e) e = some ((l.drop (i * e)).take e) := by
  obtain ⟨j, o, cap, ex, c, wr, es, h1, h2, h3, h4, h5, _⟩ := h.at_ hi
  exact ⟨j, o, cap, ex, h1, h2, by simp only [rd, h3]; rw [if_pos h4, h5]⟩
theorem rd_new (m : AMem) (L : List AV) (wr : Bool) (es : ES) {n : Nat} (hn : L.length = n) : rd (m.new (.cells L wr es)) m.next 0 n = some L := by
  subst hn
  simp only [rd, AMem.get_new, if_true, Nat.zero_add, Nat.le_refl, List.drop_zero, List.take_length]
theorem rd_keep {m m' : AMem} {fp : List Nat} {j o n : Nat} {L : List AV} (h : rd m j o n = some L) (k : Keep m m' fp) (hj : j < m.next) (hn : j ∉ fp) : rd m' j o n = some L := by
  unfold rd at h ⊢
  rw [k.get j hj hn]; exact h
theorem mk_put (m : AMem) (L0 L : List AV) (wr wr2 : Bool) (es es2 : ES) (n : Nat) (hn : L.length = n) : ∃ mB : AMem, mB = (m.new (.cells L0 wr es)).put m.next (some (.cells L wr2 es2)) ∧ Keep m mB [] ∧ rd mB m.next 0 n = some L ∧ mB.get m.next = some (.cells L wr2 es2) ∧ mB.ds = m.ds ∧ mB.ro = m.ro ∧ m.next < mB.next := by
  have hg : ((m.new (.cells L0 wr es)).put m.next (some (.cells L wr2 es2))).get m.next = some (.cells L wr2 es2) := by rw [AMem.get_put, if_pos rfl]
  refine ⟨_, rfl, (Keep.new m _).trans (Keep.put _ _ _) (by intro i hi; simp at hi; right; omega), ?_, hg, rfl, rfl, by simp⟩
  subst hn
  simp only [rd, hg, Nat.zero_add, Nat.le_refl, if_true, List.drop_zero, List.take_length]
theorem mk_new (m : AMem) (L : List AV) (wr : Bool) (es : ES) (n : Nat) (hn : L.length = n) : ∃ mB : AMem, mB = m.new (.cells L wr es) ∧ Keep m mB [] ∧ rd mB m.next 0 n = some L ∧ mB.get m.next = some (.cells L wr es) ∧ mB.ds = m.ds ∧ mB.ro = m.ro ∧ m.next < mB.next :=
  ⟨_, rfl, Keep.new m _, rd_new m _ _ _ hn, by rw [AMem.get_new, if_pos rfl], rfl, rfl, by simp⟩
theorem Keep.np (m m0 : AMem) (x : AObj) (y : Option AObj) : Keep m (((m.inn.new x).put m.next y).out m0) [] :=
  (((Keep.new m.inn x).trans (Keep.put _ _ _) (by intro i hi; have := List.mem_singleton.1 hi; right; simp only [AMem.next_inn]; omega)).ofInn).out
end Go.Vi
namespace Go.Vi
open Go.RowKit
set_option linter.unusedSimpArgs false
set_option linter.unusedVariables false
class Sm (l : List UInt8) (n : outParam Nat) : Prop where
  le : l.length ≤ n
instance : Sm [] 0 := ⟨Nat.le_refl _⟩
instance {a : UInt8} {l : List UInt8} {n : Nat} [h : Sm l n] : Sm (a :: l) (n + 1) := ⟨Nat.succ_le_succ h.le⟩
instance {a b : List UInt8} {n k : Nat} [h : Sm a n] [h2 : Sm b k] : Sm (a ++ b) (n + k) := ⟨by rw [List.length_append]; exact Nat.add_le_add h.le h2.le⟩
theorem toList_loop (bs : ByteArray) : ∀ (n i : Nat) (r : List UInt8), bs.size - i = n → ByteArray.toList.loop bs i r = r.reverse ++ bs.data.toList.drop i
  | 0, i, r, h => by
    have h1 : bs.data.toList.length = bs.size := rfl
    unfold ByteArray.toList.loop
    rw [if_neg (by omega), List.drop_eq_nil_of_le (by omega)]; simp
  | n + 1, i, r, h => by
    have h1 : bs.data.toList.length = bs.size := rfl
    have hi : i < bs.data.toList.length := by omega
    unfold ByteArray.toList.loop
    rw [if_pos (by omega), toList_loop bs n (i + 1) _ (by omega), List.drop_eq_getElem_cons hi]
    have : bs.get! i = bs.data.toList[i] := by
      show bs.data[i]! = _
      rw [getElem!_pos bs.data i (by simpa using hi)]; simp
    rw [this]; simp
theorem toList_eq (bs : ByteArray) : bs.toList = bs.data.toList := by
  unfold ByteArray.toList
  rw [toList_loop bs _ 0 [] rfl]; simp
theorem eqS (x y : List UInt8) : strBin .eql ⟨x.toArray⟩ ⟨y.toArray⟩ = some (.b (decide (x = y))) := by
  simp only [strBin, toList_eq]
  by_cases h : x = y
  · subst h; simp
  · simp [h]
end Go.Vi
namespace Go.Vi
set_option linter.unusedSimpArgs false
set_option linter.unusedVariables false
theorem WB :
    (type_of% @decide_true) ∧
    (type_of% @decide_false) ∧
    (type_of% @at_t) ∧
    (type_of% @at_c) ∧
    (type_of% @upd_at) ∧
    (type_of% @upd_none) ∧
    (type_of% @push_no) ∧
    (type_of% @AMem.get_inn) ∧
    (type_of% @AMem.next_inn) ∧
    (type_of% @AMem.ds_inn) ∧
    (type_of% @AMem.get_put) ∧
    (type_of% @AMem.next_put) ∧
    (type_of% @AMem.ds_put) ∧
    (type_of% @AMem.get_new) ∧
    (type_of% @AMem.next_new) ∧
    (type_of% @AMem.ds_new) ∧
    (type_of% @List.getD_cons_zero.{0}) ∧
    (type_of% @List.getD_cons_succ.{0}) ∧
    (type_of% @List.getD_nil.{0}) ∧
    (type_of% @Bool.or_true) ∧
    (type_of% @Bool.true_or) ∧
    (type_of% @Bool.or_false) ∧
    (type_of% @Bool.false_or) ∧
    (type_of% @Bool.not_true) ∧
    (type_of% @Bool.not_false) ∧
    (type_of% @Bool.false_eq_true) ∧
    (type_of% @beq_self_eq_true.{0}) ∧
    (type_of% @beq_true) ∧
    (type_of% @Bool.true_beq) ∧
    (type_of% @beq_false) ∧
    (type_of% @Bool.false_beq) ∧
    (type_of% @List.length_cons.{0}) ∧
    (type_of% @List.length_nil.{0}) ∧
    (type_of% @Nat.zero_add) ∧
    (type_of% @Nat.add_zero) ∧
    (type_of% @List.getElem?_cons_zero.{0}) ∧
    (type_of% @List.getElem?_cons_succ.{0}) ∧
    (type_of% @Option.map_some.{0, 0}) ∧
    (type_of% @List.map_cons.{0, 0}) ∧
    (type_of% @List.map_nil.{0, 0}) ∧
    (type_of% @true_and) ∧
    (type_of% @and_true) ∧
    (type_of% @and_self) :=
  ⟨@decide_true, @decide_false, @at_t, @at_c, @upd_at, @upd_none, @push_no, @AMem.get_inn, @AMem.next_inn, @AMem.ds_inn, @AMem.get_put, @AMem.next_put, @AMem.ds_put, @AMem.get_new, @AMem.next_new, @AMem.ds_new, @List.getD_cons_zero.{0}, @List.getD_cons_succ.{0}, @List.getD_nil.{0}, @Bool.or_true, @Bool.true_or, @Bool.or_false, @Bool.false_or, @Bool.not_true, @Bool.not_false, @Bool.false_eq_true, @beq_self_eq_true.{0}, @beq_true, @Bool.true_beq, @beq_false, @Bool.false_beq, @List.length_cons.{0}, @List.length_nil.{0}, @Nat.zero_add, @Nat.add_zero, @List.getElem?_cons_zero.{0}, @List.getElem?_cons_succ.{0}, @Option.map_some.{0, 0}, @List.map_cons.{0, 0}, @List.map_nil.{0, 0}, @true_and, @and_true, @and_self⟩
theorem WO :
    (type_of% @Nat.add_eq_left) ∧
    (type_of% @Nat.left_eq_add) ∧
    (type_of% @Nat.add_left_cancel_iff) ∧
    (type_of% @Nat.succ_ne_zero) ∧
    (type_of% @Nat.one_ne_zero) ∧
    (type_of% @List.nil_append.{0}) ∧
    (type_of% @List.cons_append.{0}) ∧
    (type_of% @one_i) ∧
    (type_of% @one_b) ∧
    (type_of% @one_s) ∧
    (type_of% @one_p) ∧
    (type_of% @one_sl) ∧
    (type_of% @one_es) ∧
    (type_of% @one_ni) ∧
    (type_of% @one_ifc) ∧
    (type_of% @cells_i) ∧
    (type_of% @cells_b) ∧
    (type_of% @cells_s) ∧
    (type_of% @cells_p) ∧
    (type_of% @cells_sl) ∧
    (type_of% @cells_ni) ∧
    (type_of% @cells_ifc) ∧
    (type_of% @cells_agg) ∧
    (type_of% @List.all_cons.{0}) ∧
    (type_of% @List.all_nil.{0}) ∧
    (type_of% @Bool.and_self) ∧
    (type_of% @List.take_zero.{0}) ∧
    (type_of% @List.take_succ_cons.{0}) ∧
    (type_of% @List.take_nil.{0}) ∧
    (type_of% @List.drop_succ_cons.{0}) ∧
    (type_of% @List.drop_zero.{0}) ∧
    (type_of% @List.drop_nil.{0}) ∧
    (type_of% @List.append_nil.{0}) ∧
    (type_of% @Nat.le_refl) :=
  ⟨@Nat.add_eq_left, @Nat.left_eq_add, @Nat.add_left_cancel_iff, @Nat.succ_ne_zero, @Nat.one_ne_zero, @List.nil_append.{0}, @List.cons_append.{0}, @one_i, @one_b, @one_s, @one_p, @one_sl, @one_es, @one_ni, @one_ifc, @cells_i, @cells_b, @cells_s, @cells_p, @cells_sl, @cells_ni, @cells_ifc, @cells_agg, @List.all_cons.{0}, @List.all_nil.{0}, @Bool.and_self, @List.take_zero.{0}, @List.take_succ_cons.{0}, @List.take_nil.{0}, @List.drop_succ_cons.{0}, @List.drop_zero.{0}, @List.drop_nil.{0}, @List.append_nil.{0}, @Nat.le_refl⟩
theorem WG :
    (type_of% @upd_at) ∧
    (type_of% @Bool.not_true) ∧
    (type_of% @Bool.not_false) :=
  ⟨@upd_at, @Bool.not_true, @Bool.not_false⟩
theorem WT :
    (type_of% @upd_at) ∧
    (type_of% @upd_none) ∧
    (type_of% @List.getD_cons_zero.{0}) ∧
    (type_of% @List.getD_cons_succ.{0}) ∧
    (type_of% @List.getD_nil.{0}) :=
  ⟨@upd_at, @upd_none, @List.getD_cons_zero.{0}, @List.getD_cons_succ.{0}, @List.getD_nil.{0}⟩
theorem WS :
    (type_of% @W_seq) ∧
    (type_of% @W_reg) ∧
    (type_of% @push_no) ∧
    (type_of% @push_yes) ∧
    (type_of% @W_onil) ∧
    (type_of% @W_skip) ∧
    (type_of% @W_blk) ∧
    (type_of% @W_b) :=
  ⟨@W_seq, @W_reg, @push_no, @push_yes, @W_onil, @W_skip, @W_blk, @W_b⟩
end Go.Vi
namespace Go.Vi
open Go.RowKit
set_option linter.unusedSimpArgs false
set_option linter.unusedVariables false
section
variable {T : Nat → VFn} {nt : Nat} {Q : (Nat → AV) → AMem → Prop} {K : List KI} {g : Nat → AV} {m : AMem}
theorem FinL_ret : ∀ (K : List KI) {r : List AV} {m : AMem}, Q (gOf r) m → FinL T nt Q K .ret r m
  | [], _, _, h => ⟨.inr rfl, h⟩
  | .c _ :: K, _, _, h => FinL_ret K h
  | .b _ :: K, _, _, h => FinL_ret K h
  | .o _ _ :: K, _, _, h => FinL_ret K h
  | .j _ :: K, _, _, h => FinL_ret K h
theorem FinL_cutQ {J : (Nat → AV) → AMem → Prop} (h2 : ∀ r m, r.length = nt → J (gOf r) m → FinL T nt Q K .n r m) : ∀ (K1 : List KI) (ex : Ex) (r : List AV) (m : AMem), FinL T nt Q (K1 ++ [.j J]) ex r m → FinL T nt Q (K1 ++ K) ex r m
  | [], .n, r, m, h => h2 r m h.1 h.2
  | [], .x _, r, m, h => absurd h.1 (by simp)
  | [], .ret, r, m, h => FinL_ret K h.2
  | .c _ :: K1, .n, r, m, ⟨x, hx, hf⟩ => ⟨x, hx, FinL_cutQ h2 K1 _ _ _ hf⟩
  | .c _ :: K1, .x _, r, m, h => FinL_cutQ h2 K1 _ _ _ h
  | .c _ :: K1, .ret, r, m, h => FinL_cutQ h2 K1 _ _ _ h
  | .b _ :: K1, .n, r, m, h => FinL_cutQ h2 K1 _ _ _ h
  | .b id :: K1, .x i, r, m, h => by
    simp only [List.cons_append, FinL] at h ⊢
    split
    · rename_i hi; rw [if_pos hi] at h; exact FinL_cutQ h2 K1 _ _ _ h
    · rename_i hi; rw [if_neg hi] at h; exact FinL_cutQ h2 K1 _ _ _ h
  | .b _ :: K1, .ret, r, m, h => FinL_cutQ h2 K1 _ _ _ h
  | .o _ _ :: K1, .n, r, m, ⟨rest, x, h1, h3, h4, hf⟩ => ⟨rest, x, h1, h3, h4, FinL_cutQ h2 K1 _ _ _ hf⟩
  | .o _ _ :: K1, .x _, r, m, h => FinL_cutQ h2 K1 _ _ _ h
  | .o _ _ :: K1, .ret, r, m, h => FinL_cutQ h2 K1 _ _ _ h
  | .j _ :: K1, .n, r, m, h => h
  | .j _ :: K1, .x _, r, m, h => FinL_cutQ h2 K1 _ _ _ h
  | .j _ :: K1, .ret, r, m, h => FinL_cutQ h2 K1 _ _ _ h
theorem W_cutQ (K1 : List KI) (J : (Nat → AV) → AMem → Prop) (h1 : W T nt Q (K1 ++ [.j J]) g m) (h2 : ∀ g' m', J g' m' → (∀ i, nt ≤ i → g' i = un) → W T nt Q K g' m') : W T nt Q (K1 ++ K) g m := by
  obtain ⟨r, hr, hf⟩ := h1
  refine ⟨r, hr, FinL_cutQ (fun r1 m1 hl hJ => ?_) K1 _ _ _ hf⟩
  obtain ⟨r2, hr2, hfin⟩ := h2 _ _ hJ (Agree.of hl).beyond
  obtain rfl : r2 = r1 := Agree.unique hr2 (Agree.of hl)
  exact hfin
end
theorem Arr.slc {m : AMem} {e n : Nat} {av : AV} {l : List AV} (h : Arr m e av n l) {f t : Nat} (hf : f ≤ t) (ht : t ≤ n) :
    ∃ av', Arr m e av' (t - f) ((l.drop (f * e)).take ((t - f) * e)) ∧ ∀ (g : Nat → AV) (x y z : X) (m2 : AMem), X.at g x = av → X.at g y = .i .i64 (f : Int) → X.at g z = .i .i64 (t : Int) → execE (.slc e x (some y) (some z) none) (X.at g) m2 = some (av', m2) := by
  obtain ⟨h0, ⟨rfl, hav⟩ | ⟨j, o, cap, ex, c, wr, es, rfl, hc, h2, h3, h4, h5⟩⟩ := h
  · obtain rfl : f = 0 := by omega
    obtain rfl : t = 0 := by omega
    refine ⟨av, ⟨by simp, .inl ⟨rfl, hav⟩⟩, ?_⟩
    intro g x y z m2 hx hy hz
    rcases hav with rfl | rfl
    · have hb : boundsX (X.at g) 0 0 (some y) (some z) none = some (0, 0, 0) := by simp [boundsX, hy, hz, boundE]
      simp only [execE, hx, hb, Option.isSome_none, true_and, if_true]
    · have hb : boundsX (X.at g) 0 0 (some y) (some z) none = some (0, 0, 0) := by simp [boundsX, hy, hz, boundE]
      simp only [execE, hx, hb]
  · have hfe : f * e ≤ t * e := Nat.mul_le_mul_right e hf
    have hte : t * e ≤ n * e := Nat.mul_le_mul_right e ht
    have hse : (t - f) * e = t * e - f * e := Nat.sub_mul t f e
    have hlen : ((l.drop (f * e)).take ((t - f) * e)).length = (t - f) * e := by rw [List.length_take, List.length_drop, h0]; omega
    have hb : ∀ (g : Nat → AV) (y z : X), X.at g y = .i .i64 (f : Int) → X.at g z = .i .i64 (t : Int) → boundsX (X.at g) n cap (some y) (some z) none = some (f, t, cap) := by
      intro g y z hy hz
      simp only [boundsX, hy, hz, boundE, Option.isSome_none, Bool.false_eq_true, if_false]
      rw [if_pos ⟨by omega, by omega⟩]
      simp only [Int.toNat_natCast]
      rw [if_pos ⟨by omega, by omega⟩]
    have hcut : ((c.drop (o + f * e)).take ((t - f) * e)) = (l.drop (f * e)).take ((t - f) * e) := by
      rw [← h5, List.drop_take, List.drop_drop, List.take_take, Nat.min_eq_left (by omega)]
    by_cases hex : ex = true ∨ f < cap ∨ f = 0
    · refine ⟨.sl (some (j, if ex = true ∧ cap = f then o else o + f * e)) (t - f) (cap - f) ex, ⟨hlen, ?_⟩, ?_⟩
      · by_cases hcf : ex = true ∧ cap = f
        · rw [if_pos hcf]
          obtain rfl : t = f := by omega
          refine .inr ⟨j, o, cap - t, ex, c, wr, es, by simp, by omega, h2, h3, by simp; omega, by simp⟩
        · rw [if_neg hcf]
          exact .inr ⟨j, o + f * e, cap - f, ex, c, wr, es, rfl, by omega, h2, h3, by omega, hcut⟩
      · intro g x y z m2 hx hy hz
        simp only [execE, hx, hb g y z hy hz]
        cases ex with
        | true => simp only [Bool.true_or, if_true, true_and]
        | false =>
          rcases hex with h | h | h
          · simp at h
          · simp [h]
          · subst h; simp
    · have hex' : ex = false := by cases ex <;> simp_all
      subst hex'
      obtain rfl : t = f := by omega
      refine ⟨.es, ⟨by simp, .inl ⟨by omega, .inl rfl⟩⟩, ?_⟩
      intro g x y z m2 hx hy hz
      simp only [execE, hx, hb g y z hy hz, Option.isSome_none, Bool.or_self, Bool.false_eq_true, if_false]
      rw [if_neg (by omega), if_neg (by omega), if_pos (Nat.le_refl _)]
theorem Arr.full {m : AMem} {e n : Nat} {av : AV} {l : List AV} (h : Arr m e av n l) (hn : 0 < n) :
    ∃ j o cap ex c wr es, av = .sl (some (j, o)) n cap ex ∧ j < m.next ∧ m.get j = some (.cells c wr es) ∧ ∀ k, k < n * e → c[o + k]? = l[k]? := by
  obtain ⟨h0, ⟨rfl, _⟩ | ⟨j, o, cap, ex, c, wr, es, h1, _, h2, h3, h4, h5⟩⟩ := h
  · omega
  · exact ⟨j, o, cap, ex, c, wr, es, h1, h2, h3, fun k hk => by rw [← h5, List.getElem?_take, if_pos hk, List.getElem?_drop]⟩
theorem Arr.bytes {m : AMem} {av : AV} {n : Nat} {l : List UInt8} (h : Arr m 1 av n (cellsOfBytes l)) : Bytes m av l := by
  obtain ⟨h0, ⟨rfl, hav⟩ | ⟨j, o, cap, ex, c, wr, es, rfl, hc, h2, h3, h4, h5⟩⟩ := h
  · have : l = [] := by
      have h1 : (cellsOfBytes l).length = l.length := by simp [cellsOfBytes]
      cases l with
      | nil => rfl
      | cons a l => simp [cellsOfBytes] at h0
    subst this
    rcases hav with rfl | rfl
    · rfl
    · exact ⟨rfl, rfl⟩
  · have h1 : (cellsOfBytes l).length = l.length := by simp [cellsOfBytes]
    exact ⟨by omega, h2, c, wr, es, h3, by omega, by rw [Nat.mul_one] at h5; exact h5⟩
structure Nd where
  k : Int
  fr : Int
  to : Int
  num : Int
  x : Nat → AV
def Nd.cells (d : Nd) : List AV := [.i .i64 d.k, .i .i64 d.fr, .i .i64 d.to, .i .i64 d.num, d.x 0, d.x 1, d.x 2, d.x 3, d.x 4, d.x 5]
structure Nf where
  k : Int
  fr : Int
  to : Int
  num : Int
  mn : Int
  mx : Int
  md : Int
  nm : List UInt8
  sv : AV
  kv : AV
  sl : List (Int × Int)
  kl : List Int
def Nf.nd (d : Nf) : Nd := ⟨d.k, d.fr, d.to, d.num, fun i => [.i .i64 d.mn, .i .i64 d.mx, .i .i64 d.md, .s ⟨d.nm.toArray⟩, d.sv, d.kv].getD i un⟩
def Nf.cells (d : Nf) : List AV := [.i .i64 d.k, .i .i64 d.fr, .i .i64 d.to, .i .i64 d.num, .i .i64 d.mn, .i .i64 d.mx, .i .i64 d.md, .s ⟨d.nm.toArray⟩, d.sv, d.kv]
def ints (L : List Int) : List AV := L.map (.i .i64 ·)
structure Nf.ok (m : AMem) (d : Nf) : Prop where
  num : InI64 d.num
  set : Arr m 2 d.sv d.sl.length (flat2 d.sl)
  kids : Arr m 1 d.kv d.kl.length (ints d.kl)
  sets : d.sl.length ≤ 8796093022208
  kidn : d.kl.length ≤ 140737488355328
theorem Nf.ok.keep0 {m m' : AMem} {d : Nf} (h : d.ok m) (k : Keep m m' []) : d.ok m' := ⟨h.num, h.set.keep0 k, h.kids.keep0 k, h.sets, h.kidn⟩
theorem ints_get {L : List Int} {i : Nat} {x : Int} (h : L[i]? = some x) : (ints L)[i]? = some (.i .i64 x) := by
  simp [ints, h]
end Go.Vi
