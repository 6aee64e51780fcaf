/- States as bytes, by what is another thing than in the one ahead; read again as they were written. No condition. -/
import Derived.Test.YtfbglgmhhmeoeaaGreatDoorWbViVint
namespace Go.Vi
open Go.RowKit
set_option linter.unusedSimpArgs false
set_option linter.unusedVariables false
structure St where
  kd : Int
  nd : Int
  ph : Int
  pos : Int
  st : Int
  dp : Int
  og : Int
  caps : List Int
def St.fl (s : St) : List Int := [s.nd, s.ph, s.pos, s.st, s.dp, s.og]
def St.zero : St := ⟨0, 0, 0, 0, 0, 0, 0, []⟩
def St.rt (s : St) (g : Int) : Prop := (0 ≤ g ∧ g ≤ 99) ∧ (s.caps.length : Int) = 2 * (g + 1) ∧ ((1 ≤ s.kd ∧ s.kd ≤ 14) ∧ (0 ≤ s.nd ∧ s.nd ≤ 16384) ∧ 0 ≤ s.ph ∧ s.ph ≤ 16384) ∧ ((0 ≤ s.pos ∧ s.pos ≤ 65536) ∧ 0 ≤ s.st ∧ s.st ≤ 65536) ∧ ((0 ≤ s.dp ∧ s.dp ≤ 65536) ∧ -1 ≤ s.og ∧ s.og ≤ 1048576) ∧ ∀ x ∈ s.caps, -1 ≤ x ∧ x ≤ 65536
instance (s : St) (g : Int) : Decidable (s.rt g) := by unfold St.rt; infer_instance
def St.blank (g : Nat) : St := ⟨0, 0, 0, 0, 0, 0, -1, List.replicate (2 * (g + 1)) (-1)⟩
def Small (x : Int) : Prop := -1 ≤ x ∧ x ≤ 1048576
def St.small (s : St) : Prop := (∀ x ∈ s.fl, Small x) ∧ ∀ x ∈ s.caps, Small x
theorem St.rt.small {s : St} {g : Int} (h : s.rt g) : s.small := by
  obtain ⟨_, _, ⟨_, h1, h2⟩, ⟨h3, h4⟩, ⟨h5, h6⟩, h7⟩ := h
  refine ⟨fun x hx => ?_, fun x hx => ?_⟩
  · simp only [St.fl, List.mem_cons, List.not_mem_nil, or_false] at hx
    unfold Small
    rcases hx with rfl | rfl | rfl | rfl | rfl | rfl <;> omega
  · have := h7 x hx
    unfold Small; omega
theorem St.blank_small (g : Nat) : (St.blank g).small := by
  refine ⟨fun x hx => ?_, fun x hx => ?_⟩
  · simp only [St.fl, St.blank, List.mem_cons, List.not_mem_nil, or_false] at hx
    unfold Small
    rcases hx with rfl | rfl | rfl | rfl | rfl | rfl <;> omega
  · have := (List.mem_replicate.1 hx).2
    unfold Small; omega
/-! ### Reading -/
abbrev Rd := Nat × Int
def rnum (b : List UInt8) (r : Rd) (most : Nat) : Nat × Rd :=
  if r.2 ≠ 0 then (0, r)
  else if (vget b r.1).2.2 ≠ 0 then (0, (r.1, (vget b r.1).2.2))
  else if most < (vget b r.1).1 then (0, (r.1, 11))
  else ((vget b r.1).1, (r.1 + (vget b r.1).2.1, 0))
def rmore (b : List UInt8) (r : Rd) (was : Int) : Int × Rd :=
  if r.2 ≠ 0 then (was, r)
  else if (vget b r.1).2.2 ≠ 0 then (was, (r.1, (vget b r.1).2.2))
  else if zag (vget b r.1).1 = 0 then (was, (r.1, 11))
  else (IntKind.i64.wrap (was + zag (vget b r.1).1), (r.1 + (vget b r.1).2.1, 0))
def rflds (b : List UInt8) (mask : Nat) : Nat → List Int → Rd → List Int × Rd
  | _, [], r => ([], r)
  | i, x :: l, r =>
    let q := if mask / 2 ^ i % 2 = 1 then rmore b r x else (x, r)
    let p := rflds b mask (i + 1) l q.2
    (q.1 :: p.1, p.2)
def plgo (b : List UInt8) : Nat → Nat → Rd → List Int → List Int × Rd
  | 0, _, r, l => (l, r)
  | n + 1, a, r, l =>
    let q := rnum b r (l.length - 1 - a)
    if q.2.2 ≠ 0 then (l, q.2)
    else if l.length ≤ a then (l, (q.2.1, 11))
    else
      let p := rmore b q.2 (l.getD (a + q.1) 0)
      plgo b n (a + q.1 + 1) p.2 (l.set (a + q.1) p.1)
def places (b : List UInt8) (r : Rd) (l : List Int) : List Int × Rd :=
  let q := rnum b r l.length
  plgo b q.1 0 (if q.1 = 0 ∧ q.2.2 = 0 then (q.2.1, 11) else q.2) l
def mkSt (kd : Int) (fs : List Int) (caps : List Int) : St := ⟨kd, fs.getD 0 0, fs.getD 1 0, fs.getD 2 0, fs.getD 3 0, fs.getD 4 0, fs.getD 5 0, caps⟩
def draw (was : St) (b : List UInt8) (a : Nat) : St × Rd :=
  let k := rnum b (a, 0) 14
  let m := rnum b k.2 127
  let f := rflds b m.1 0 was.fl m.2
  let c := if m.1 / 64 % 2 = 1 then places b f.2 was.caps else (was.caps, f.2)
  (mkSt (k.1 : Int) f.1 c.1, c.2)
def grp (s : St) : Int := (s.caps.length : Int) / 2 - 1
def dread (was : St) (b : List UInt8) (a : Nat) : St × Nat × Int :=
  let q := draw was b a
  if q.2.2 ≠ 0 then (.zero, 0, q.2.2)
  else if ¬ q.1.rt (grp was) then (.zero, 0, 11)
  else (q.1, q.2.1 - a, 0)
/-! ### Writing -/
def eflds : List Int → List Int → List UInt8
  | a :: l, x :: k => (if a = x then [] else vb (zig (x - a))) ++ eflds l k
  | _, _ => []
def emask : Nat → List Int → List Int → Nat
  | i, a :: l, x :: k => (if a = x then 0 else 2 ^ i) + emask (i + 1) l k
  | _, _, _ => 0
def mvn : List Int → List Int → Nat
  | a :: l, x :: k => (if x = a then 0 else 1) + mvn l k
  | _, _ => 0
def mvl : Nat → Nat → List Int → List Int → List UInt8
  | i, last, a :: l, x :: k => if x = a then mvl (i + 1) last l k else vb (i - last) ++ (vb (zig (x - a)) ++ mvl (i + 1) (i + 1) l k)
  | _, _, _, _ => []
def moved (l k : List Int) : List UInt8 := vb (mvn l k) ++ mvl 0 0 l k
def dmask (was now : St) : Nat := emask 0 was.fl now.fl + if 0 < mvn was.caps now.caps then 64 else 0
def denc (was now : St) : List UInt8 := vb now.kd.toNat ++ (vb (dmask was now) ++ (eflds was.fl now.fl ++ if 0 < mvn was.caps now.caps then moved was.caps now.caps else []))
/-! ### What was written is read -/
theorem drop_app {b x y : List UInt8} {a : Nat} (h : b.drop a = x ++ y) : b.drop (a + x.length) = y := by
  rw [← List.drop_drop, h, List.drop_left]
theorem rnum_vb {b r : List UInt8} {n a most : Nat} (hn : n < 18446744073709551616) (hm : n ≤ most) (hb : b.drop a = vb n ++ r) : rnum b (a, 0) most = (n, (a + (vb n).length, 0)) := by
  unfold rnum
  simp only [vget_vb hn hb]
  rw [if_neg (by simp), if_neg (by simp), if_neg (by omega)]
theorem rmore_vb {b r : List UInt8} {x w : Int} {a : Nat} (hw : Small w) (hx : Small x) (hne : w ≠ x) (hb : b.drop a = vb (zig (x - w)) ++ r) : rmore b (a, 0) w = (x, (a + (vb (zig (x - w))).length, 0)) := by
  unfold Small at hw hx
  have hz : zig (x - w) < 18446744073709551616 := zig_lt ⟨by omega, by omega⟩
  unfold rmore
  simp only [vget_vb hz hb, zag_zig]
  rw [if_neg (by simp), if_neg (by simp), if_neg (by omega), show w + (x - w) = x by omega, wr_i64 (by omega) (by omega)]
theorem emask_lt : ∀ (i : Nat) (l k : List Int), emask i l k < 2 ^ (i + l.length) - 2 ^ i + 1
  | i, [], k => by simp [emask]
  | i, a :: l, [] => by
    have := Nat.pow_le_pow_right (n := 2) (by omega) (show i ≤ i + (a :: l).length by omega)
    simp only [emask]; omega
  | i, a :: l, x :: k => by
    have ih := emask_lt (i + 1) l k
    have h2 : 2 ^ (i + 1) = 2 * 2 ^ i := by rw [Nat.pow_succ, Nat.mul_comm]
    have h3 : i + (a :: l).length = i + 1 + l.length := by simp only [List.length_cons]; omega
    have h4 := Nat.pow_le_pow_right (n := 2) (by omega) (show i + 1 ≤ i + 1 + l.length by omega)
    simp only [emask, h3]
    split <;> omega
theorem emask_bit : ∀ (l k : List Int) (i lo hi : Nat), lo < 2 ^ i → (lo + emask i l k + hi * 2 ^ (i + l.length)) / 2 ^ i % 2 = (match l, k with | a :: _, x :: _ => if a = x then 0 else 1 | a :: _, [] => 0 | [], _ => hi % 2)
  | [], k, i, lo, hi, h => by
    simp only [emask, List.length_nil, Nat.add_zero]
    rw [Nat.add_mul_div_right _ _ (Nat.two_pow_pos i), Nat.div_eq_of_lt h, Nat.zero_add]
  | a :: l, [], i, lo, hi, h => by
    simp only [emask, List.length_cons, Nat.add_zero]
    rw [show i + (l.length + 1) = 1 + l.length + i by omega, Nat.pow_add, ← Nat.mul_assoc, Nat.add_mul_div_right _ _ (Nat.two_pow_pos i), Nat.div_eq_of_lt h, Nat.zero_add, Nat.pow_add, Nat.pow_one, ← Nat.mul_assoc, Nat.mul_right_comm, Nat.mul_mod_left]
  | a :: l, x :: k, i, lo, hi, h => by
    have hd : 2 ^ i ∣ emask (i + 1) l k ∧ 2 ^ (i + 1) ∣ emask (i + 1) l k := by
      have key : ∀ (l k : List Int) (i : Nat), 2 ^ i ∣ emask i l k := by
        intro l
        induction l with
        | nil => intro k i; exact ⟨0, by simp [emask]⟩
        | cons a l ih =>
          intro k i
          cases k with
          | nil => exact ⟨0, by simp [emask]⟩
          | cons x k =>
            simp only [emask]
            refine Nat.dvd_add ?_ (Nat.dvd_trans ⟨2, by rw [Nat.pow_succ]⟩ (ih k (i + 1)))
            split
            · exact ⟨0, by simp⟩
            · exact Nat.dvd_refl _
      exact ⟨Nat.dvd_trans ⟨2, by rw [Nat.pow_succ]⟩ (key l k (i + 1)), key l k (i + 1)⟩
    obtain ⟨_, q, hq⟩ := hd
    have hp : 2 ^ (i + 1) = 2 * 2 ^ i := by rw [Nat.pow_succ, Nat.mul_comm]
    have hh : hi * 2 ^ (i + (a :: l).length) = 2 * (hi * 2 ^ l.length) * 2 ^ i := by
      rw [List.length_cons, show i + (l.length + 1) = l.length + 1 + i by omega, Nat.pow_add, Nat.pow_succ]
      simp only [Nat.mul_left_comm, Nat.mul_comm]
    simp only [emask]
    rw [hh, hq, hp]
    have e : ∀ z, lo + (z * 2 ^ i + 2 * 2 ^ i * q) + 2 * (hi * 2 ^ l.length) * 2 ^ i = lo + (z + 2 * (q + hi * 2 ^ l.length)) * 2 ^ i := by
      intro z
      rw [Nat.add_mul, Nat.mul_add 2, Nat.add_mul, Nat.mul_right_comm 2 (2 ^ i) q]
      omega
    by_cases hax : a = x
    · rw [if_pos hax, if_pos hax]
      have := e 0
      rw [Nat.zero_mul] at this
      rw [this, Nat.add_mul_div_right _ _ (Nat.two_pow_pos i), Nat.div_eq_of_lt h]
      omega
    · rw [if_neg hax, if_neg hax]
      have := e 1
      rw [Nat.one_mul] at this
      rw [this, Nat.add_mul_div_right _ _ (Nat.two_pow_pos i), Nat.div_eq_of_lt h]
      omega
theorem rflds_enc {b : List UInt8} : ∀ (l k : List Int) (i lo hi a : Nat) (post : List UInt8), l.length = k.length → lo < 2 ^ i → (∀ x ∈ l, Small x) → (∀ x ∈ k, Small x) → b.drop a = eflds l k ++ post →
    rflds b (lo + emask i l k + hi * 2 ^ (i + l.length)) i l (a, 0) = (k, (a + (eflds l k).length, 0))
  | [], [], i, lo, hi, a, post, _, _, _, _, _ => by simp [rflds, eflds]
  | w :: l, x :: k, i, lo, hi, a, post, hl, hlo, hw, hx, hb => by
    have hbit := emask_bit (w :: l) (x :: k) i lo hi hlo
    simp only [rflds, hbit]
    have e : lo + emask i (w :: l) (x :: k) + hi * 2 ^ (i + (w :: l).length) = (lo + if w = x then 0 else 2 ^ i) + emask (i + 1) l k + hi * 2 ^ (i + 1 + l.length) := by
      simp only [emask, List.length_cons]
      rw [show i + (l.length + 1) = i + 1 + l.length by omega]
      omega
    have hlo2 : (lo + if w = x then 0 else 2 ^ i) < 2 ^ (i + 1) := by
      have hp : 2 ^ (i + 1) = 2 * 2 ^ i := by rw [Nat.pow_succ, Nat.mul_comm]
      split <;> omega
    rw [e]
    have hl' : l.length = k.length := by simpa using hl
    have hw' := fun y hy => hw y (List.mem_cons_of_mem _ hy)
    have hx' := fun y hy => hx y (List.mem_cons_of_mem _ hy)
    by_cases hwx : w = x
    · subst hwx
      simp only [if_true, eflds, List.nil_append] at hb ⊢
      rw [if_neg (by omega)]
      have ih := rflds_enc l k (i + 1) lo hi a post hl' (by simpa using hlo2) hw' hx' hb
      simp only [Nat.add_zero]
      rw [ih]
    · simp only [if_neg hwx, if_true, eflds] at hb hlo2 ⊢
      rw [List.append_assoc] at hb
      rw [rmore_vb (hw w (List.mem_cons_self ..)) (hx x (List.mem_cons_self ..)) hwx hb]
      have ih := rflds_enc l k (i + 1) (lo + 2 ^ i) hi _ post hl' hlo2 hw' hx' (drop_app hb)
      simp only
      rw [ih]
      simp [Nat.add_assoc]
  | [], _ :: _, _, _, _, _, _, hl, _, _, _, _ => by simp at hl
  | _ :: _, [], _, _, _, _, _, hl, _, _, _, _ => by simp at hl
theorem mvn_le : ∀ (l k : List Int), mvn l k ≤ k.length
  | [], _ => by simp [mvn]
  | _ :: _, [] => by simp [mvn]
  | a :: l, x :: k => by
    have := mvn_le l k
    simp only [mvn, List.length_cons]
    split <;> omega
theorem mvn_zero : ∀ (l k : List Int), l.length = k.length → mvn l k = 0 → l = k
  | [], [], _, _ => rfl
  | a :: l, x :: k, hl, h => by
    simp only [mvn] at h
    split at h
    · rename_i hx
      rw [hx, mvn_zero l k (by simpa using hl) (by omega)]
    · omega
  | [], _ :: _, hl, _ => by simp at hl
  | _ :: _, [], hl, _ => by simp at hl
theorem plgo_mvl {b : List UInt8} : ∀ (w k np : List Int) (last a : Nat) (post : List UInt8), w.length = k.length → last ≤ np.length → np.length + k.length ≤ 1000000 → (∀ x ∈ w, Small x) → (∀ x ∈ k, Small x) → b.drop a = mvl np.length last w k ++ post →
    plgo b (mvn w k) last (a, 0) (np ++ w) = (np ++ k, (a + (mvl np.length last w k).length, 0))
  | [], [], np, last, a, post, _, _, _, _, _, _ => by simp [mvn, plgo, mvl]
  | w :: l, x :: k, np, last, a, post, hl, hlast, hn, hw, hx, hb => by
    have hl' : l.length = k.length := by simpa using hl
    have hw' := fun y hy => hw y (List.mem_cons_of_mem _ hy)
    have hx' := fun y hy => hx y (List.mem_cons_of_mem _ hy)
    have hnl : (np ++ [x]).length = np.length + 1 := by simp
    simp only [List.length_cons] at hn
    by_cases hxw : x = w
    · subst hxw
      simp only [mvl, mvn, if_true, Nat.zero_add] at hb ⊢
      have ih := plgo_mvl l k (np ++ [x]) last a post hl' (by omega) (by omega) hw' hx' (by rw [hnl]; exact hb)
      rw [hnl] at ih
      simpa using ih
    · simp only [mvl, mvn, if_neg hxw] at hb ⊢
      rw [show 1 + mvn l k = mvn l k + 1 by omega]
      rw [List.append_assoc] at hb
      have hr := rnum_vb (most := (np ++ w :: l).length - 1 - last) (n := np.length - last) (by omega) (by simp; omega) hb
      simp only [plgo, hr]
      rw [if_neg (by simp), if_neg (by simp; omega)]
      have hi : last + (np.length - last) = np.length := by omega
      have hg : (np ++ w :: l).getD np.length 0 = w := by simp [List.getD]
      rw [hi, hg]
      have hb2 := drop_app hb
      rw [List.append_assoc] at hb2
      rw [rmore_vb (hw w (List.mem_cons_self ..)) (hx x (List.mem_cons_self ..)) (fun h => hxw h.symm) hb2]
      have hset : (np ++ w :: l).set np.length x = (np ++ [x]) ++ l := by simp
      simp only
      rw [hset]
      have ih := plgo_mvl l k (np ++ [x]) (np.length + 1) _ post hl' (by omega) (by omega) hw' hx' (by rw [hnl]; exact drop_app hb2)
      rw [hnl] at ih
      rw [ih]
      simp [Nat.add_assoc]
  | [], _ :: _, _, _, _, _, hl, _, _, _, _, _ => by simp at hl
  | _ :: _, [], _, _, _, _, hl, _, _, _, _, _ => by simp at hl
theorem mkSt_fl (s : St) : mkSt s.kd s.fl s.caps = s := rfl
theorem dread_denc {was now : St} {g : Nat} {b post : List UInt8} {a : Nat} (hw : was.small) (hn : now.rt g) (hc : was.caps.length = now.caps.length) (hb : b.drop a = denc was now ++ post) :
    dread was b a = (now, (denc was now).length, 0) := by
  have hs := hn.small
  obtain ⟨hg, hcl, ⟨hk, _⟩, _⟩ := id hn
  have hkd : ((now.kd.toNat : Nat) : Int) = now.kd := by omega
  have hgr : grp was = (g : Int) := by unfold grp; rw [hc]; omega
  unfold denc at hb
  simp only [List.append_assoc] at hb
  have hm6 := emask_lt 0 was.fl now.fl
  have hfl : was.fl.length = 6 := rfl
  rw [hfl] at hm6
  have hdm : dmask was now < 128 := by unfold dmask; split <;> omega
  have h1 := rnum_vb (most := 14) (n := now.kd.toNat) (by omega) (by omega) hb
  have hb2 := drop_app hb
  have h2 := rnum_vb (most := 127) (by omega) (by omega) hb2
  have hb3 := drop_app hb2
  have hd : draw was b a = (now, (a + (denc was now).length, 0)) := by
    unfold draw
    simp only [h1, h2]
    by_cases hmv : 0 < mvn was.caps now.caps
    · have hdm2 : dmask was now = 0 + emask 0 was.fl now.fl + 1 * 2 ^ (0 + was.fl.length) := by unfold dmask; rw [if_pos hmv, hfl]; omega
      have h3 := rflds_enc was.fl now.fl 0 0 1 _ _ rfl (by omega) hw.1 hs.1 hb3
      rw [← hdm2] at h3
      rw [h3]
      have hbit : dmask was now / 64 % 2 = 1 := by rw [hdm2, hfl]; omega
      simp only [hbit, if_true]
      have hb4 := drop_app hb3
      rw [if_pos hmv] at hb4
      have hmn := mvn_le was.caps now.caps
      have hl100 : now.caps.length ≤ 200 := by omega
      unfold moved at hb4
      rw [List.append_assoc] at hb4
      have h5 := rnum_vb (most := was.caps.length) (by omega) (by omega) hb4
      unfold places
      simp only [h5]
      rw [if_neg (by omega)]
      have h6 := plgo_mvl was.caps now.caps [] 0 _ post hc (Nat.le_refl _) (by simp; omega) hw.2 hs.2 (drop_app hb4)
      simp only [List.nil_append, List.length_nil] at h6
      rw [h6]
      simp only [hkd, mkSt_fl, Prod.mk.injEq, true_and, and_true]
      unfold denc moved
      simp only [if_pos hmv, List.length_append]
      omega
    · have hdm2 : dmask was now = 0 + emask 0 was.fl now.fl + 0 * 2 ^ (0 + was.fl.length) := by unfold dmask; rw [if_neg hmv]; omega
      have h3 := rflds_enc was.fl now.fl 0 0 0 _ _ rfl (by omega) hw.1 hs.1 hb3
      rw [← hdm2] at h3
      rw [h3]
      have hbit : ¬ dmask was now / 64 % 2 = 1 := by omega
      simp only [hbit, if_false]
      have hcaps := mvn_zero was.caps now.caps hc (by omega)
      simp only [hkd, hcaps, mkSt_fl, Prod.mk.injEq, true_and, and_true]
      unfold denc
      simp only [if_neg hmv, List.append_nil, List.length_append]
      omega
  unfold dread
  simp only [hd, hgr]
  rw [if_neg (by simp), if_neg (by simpa using hn)]
  simp
/-! ### What is read is no more than there is -/
theorem rnum_at {b : List UInt8} {r : Rd} {most : Nat} (h : r.1 ≤ b.length) : r.1 ≤ (rnum b r most).2.1 ∧ (rnum b r most).2.1 ≤ b.length ∧ (rnum b r most).1 ≤ most := by
  have := (vget_le b r.1).2.1
  unfold rnum
  split
  · exact ⟨by simp, by simpa using h, by simp⟩
  · split
    · exact ⟨by simp, by simpa using h, by simp⟩
    · split
      · exact ⟨by simp, by simpa using h, by simp⟩
      · refine ⟨by simp, by simp only; omega, by simp only; omega⟩
theorem rmore_at {b : List UInt8} {r : Rd} {w : Int} (h : r.1 ≤ b.length) : r.1 ≤ (rmore b r w).2.1 ∧ (rmore b r w).2.1 ≤ b.length := by
  have := (vget_le b r.1).2.1
  unfold rmore
  split
  · exact ⟨by simp, by simpa using h⟩
  · split
    · exact ⟨by simp, by simpa using h⟩
    · split
      · exact ⟨by simp, by simpa using h⟩
      · exact ⟨by simp, by simp only; omega⟩
theorem rflds_at {b : List UInt8} {mask : Nat} : ∀ (l : List Int) (i : Nat) (r : Rd), r.1 ≤ b.length → r.1 ≤ (rflds b mask i l r).2.1 ∧ (rflds b mask i l r).2.1 ≤ b.length ∧ (rflds b mask i l r).1.length = l.length
  | [], i, r, h => by simp [rflds, h]
  | x :: l, i, r, h => by
    simp only [rflds]
    split
    · have h1 := rmore_at (w := x) h
      have h2 := rflds_at (mask := mask) l (i + 1) _ h1.2
      exact ⟨by omega, h2.2.1, by simp [h2.2.2]⟩
    · have h2 := rflds_at (mask := mask) l (i + 1) r h
      exact ⟨h2.1, h2.2.1, by simp [h2.2.2]⟩
theorem plgo_at {b : List UInt8} : ∀ (n a : Nat) (r : Rd) (l : List Int), r.1 ≤ b.length → r.1 ≤ (plgo b n a r l).2.1 ∧ (plgo b n a r l).2.1 ≤ b.length ∧ (plgo b n a r l).1.length = l.length
  | 0, a, r, l, h => by simp [plgo, h]
  | n + 1, a, r, l, h => by
    have h1 := rnum_at (most := l.length - 1 - a) h
    simp only [plgo]
    split
    · exact ⟨h1.1, h1.2.1, rfl⟩
    · split
      · exact ⟨h1.1, h1.2.1, rfl⟩
      · have h2 := rmore_at (w := l.getD (a + (rnum b r (l.length - 1 - a)).1) 0) h1.2.1
        have h3 := plgo_at n (a + (rnum b r (l.length - 1 - a)).1 + 1) _ (l.set (a + (rnum b r (l.length - 1 - a)).1) (rmore b (rnum b r (l.length - 1 - a)).2 (l.getD (a + (rnum b r (l.length - 1 - a)).1) 0)).1) h2.2
        exact ⟨by omega, h3.2.1, by rw [h3.2.2, List.length_set]⟩
theorem places_at {b : List UInt8} {r : Rd} {l : List Int} (h : r.1 ≤ b.length) : r.1 ≤ (places b r l).2.1 ∧ (places b r l).2.1 ≤ b.length ∧ (places b r l).1.length = l.length := by
  have h1 := rnum_at (most := l.length) h
  unfold places
  simp only
  split
  · have := plgo_at (rnum b r l.length).1 0 ((rnum b r l.length).2.1, 11) l h1.2.1
    exact ⟨Nat.le_trans h1.1 this.1, this.2⟩
  · have := plgo_at (rnum b r l.length).1 0 (rnum b r l.length).2 l h1.2.1
    exact ⟨Nat.le_trans h1.1 this.1, this.2⟩
theorem draw_at {was : St} {b : List UInt8} {a : Nat} (h : a ≤ b.length) : a ≤ (draw was b a).2.1 ∧ (draw was b a).2.1 ≤ b.length ∧ (draw was b a).1.caps.length = was.caps.length := by
  have h1 := rnum_at (b := b) (r := (a, 0)) (most := 14) h
  have h2 := rnum_at (most := 127) h1.2.1
  have h3 := rflds_at (b := b) (mask := (rnum b (rnum b (a, 0) 14).2 127).1) was.fl 0 _ h2.2.1
  unfold draw
  simp only
  split
  · have h4 := places_at (l := was.caps) h3.2.1
    simp only at h1
    exact ⟨by omega, h4.2.1, h4.2.2⟩
  · exact ⟨Nat.le_trans (Nat.le_trans h1.1 h2.1) h3.1, h3.2.1, rfl⟩
theorem dread_ok {was : St} {b : List UInt8} {a : Nat} (h : a ≤ b.length) (he : (dread was b a).2.2 = 0) : (dread was b a).1.rt (grp was) ∧ a + (dread was b a).2.1 ≤ b.length := by
  have h1 := draw_at (was := was) h
  unfold dread at he ⊢
  simp only at he ⊢
  split at he
  · rename_i hh; exact absurd he hh
  · rename_i hh
    split at he
    · simp at he
    · rename_i h3
      rw [if_neg hh, if_neg h3]
      exact ⟨Decidable.of_not_not h3, by simp only; omega⟩
theorem dread_no {was : St} {b : List UInt8} {a : Nat} (he : (dread was b a).2.2 ≠ 0) : (dread was b a).2.1 = 0 := by
  unfold dread at he ⊢
  simp only at he ⊢
  split
  · rfl
  · split
    · rfl
    · rename_i h1 h2
      rw [if_neg h1, if_neg h2] at he
      simp at he
end Go.Vi
