/- What the interpreter for the kernel tells, the interpreter tells. No condition. -/
import Derived.Test.YtfbglgmhhmeoeaaGreatDoorWbViK
namespace Go.Vi
open Go.RowKit
set_option linter.unusedSimpArgs false
set_option linter.unusedVariables false
structure KR (nt : Nat) (t : RT) (r : List AV) : Prop where
  small : nt ≤ 254
  ok : RT.ok 8 t
  agree : Agree nt r t.get
section
variable {C C' : CallF} {nt n : Nat} {t t' : RT} {r : List AV} {m m' : AMem} {v : AV}
theorem KR.ev (h : KR nt t r) : X.ev r = X.at t.get := h.agree.ev
theorem kSet_sound (h : KR nt t r) {d : Option Nat} (hs : kSet nt t d v = some t') : KR nt t' (setR r d v) := by
  cases d with
  | none => simp only [kSet, Option.some.injEq] at hs; subst hs; exact h
  | some d =>
    simp only [kSet] at hs
    cases hb : Nat.blt d nt with
    | false => rw [hb] at hs; simp at hs
    | true =>
      rw [hb] at hs
      simp only [cond_true, Option.some.injEq] at hs
      subst hs
      have hd : d < nt := by have : d + 1 ≤ nt := by simpa [Nat.blt] using hb
                             omega
      have hsm := h.small
      refine ⟨h.small, RT.ok_set h.ok, ?_⟩
      have := h.agree.set (d := some d) (fun k hk => by cases hk; exact hd) v
      have hg : (t.set d v).get = upd t.get (some d) v := by
        funext i
        rw [RT.get_set h.ok (by omega)]; rfl
      rw [hg]; exact this
theorem wantsK_eq (h : KR nt t r) (g : Option (Nat × Bool)) : wantsK g t = wants g r := by
  cases g with
  | none => rfl
  | some g =>
    obtain ⟨x, b⟩ := g
    simp only [wantsK, wants, h.agree.2 x]
    cases t.get x <;> rfl
theorem execKC_sound (hC : C.le C') (h : KR nt t r) {o : VO} {x : AV × AMem} (hx : execKC C o t m = some x) : execC C' o r m = some x := by
  have hev : X.at t.get = X.ev r := h.ev.symm
  cases o
  case call f args => simp only [execKC, hev] at hx; exact hC _ _ _ _ hx
  case cv f args =>
    simp only [execKC, hev] at hx
    simp only [execC]
    unfold kCv at hx
    split at hx
    · rename_i e1; rw [e1]; exact hC _ _ _ _ hx
    · rename_i e1; rw [e1]; exact hC _ _ _ _ hx
    · simp at hx
  all_goals
    simp only [execKC, hev, execK_eq, ← execE_eq] at hx
    exact hx
theorem kPair_some {x : Option RT} {y : RT × AMem} (h : kPair x m = some y) : x = some y.1 ∧ y.2 = m := by
  cases x with
  | none => simp [kPair] at h
  | some t => simp only [kPair, Option.some.injEq] at h; subst h; exact ⟨rfl, rfl⟩
theorem stepK_sound (hC : C.le C') (h : KR nt t r) {o : VOper} (hx : stepK nt C o t m = some (t', m')) : ∃ r', stepO C' o r m = some (r', m') ∧ KR nt t' r' := by
  unfold stepK at hx
  unfold stepO
  rw [← wantsK_eq h]
  cases hw : wantsK o.g t with
  | true =>
    rw [hw] at hx
    simp only [if_true]
    cases he : execKC C o.o t m with
    | none => rw [he] at hx; simp [kPut] at hx
    | some q =>
      rw [he] at hx
      obtain ⟨v, m1⟩ := q
      simp only [kPut] at hx
      obtain ⟨h1, h2⟩ := kPair_some hx
      simp only at h1 h2; subst h2
      rw [execKC_sound hC h he]
      exact ⟨_, rfl, kSet_sound h h1⟩
  | false =>
    rw [hw] at hx
    simp only at hx
    obtain ⟨h1, h2⟩ := kPair_some hx
    simp only at h1 h2; subst h2
    exact ⟨_, by simp, kSet_sound h h1⟩
theorem runOpsK_sound (hC : C.le C') : ∀ {l : List VOper} {t : RT} {r : List AV} {m : AMem} {t' : RT} {m' : AMem}, KR nt t r → runOpsK nt C l t m = some (t', m') → ∃ r', runOps C' l r m = some (r', m') ∧ KR nt t' r'
  | [], t, r, m, t', m', h, hx => by
    simp only [runOpsK, Option.some.injEq, Prod.mk.injEq] at hx
    obtain ⟨rfl, rfl⟩ := hx
    exact ⟨r, rfl, h⟩
  | o :: l, t, r, m, t', m', h, hx => by
    simp only [runOpsK] at hx
    cases hs : stepK nt C o t m with
    | none => rw [hs] at hx; simp [kNext] at hx
    | some q =>
      obtain ⟨t1, m1⟩ := q
      rw [hs] at hx
      simp only [kNext] at hx
      obtain ⟨r1, e1, h1⟩ := stepK_sound hC h hs
      obtain ⟨r', e2, h2⟩ := runOpsK_sound hC h1 hx
      exact ⟨r', by simp only [runOps, e1, e2], h2⟩
def SR (nt : Nat) : List (RT × AMem) → List (List AV × AMem) → Prop
  | [], [] => True
  | x :: l, y :: k => KR nt x.1 y.1 ∧ x.2 = y.2 ∧ SR nt l k
  | _, _ => False
theorem SR.get : ∀ {l : List (RT × AMem)} {k : List (List AV × AMem)}, SR nt l k → ∀ i : Nat, (l[i]? = none ∧ k[i]? = none) ∨ ∃ (x : RT × AMem) (y : List AV × AMem), l[i]? = some x ∧ k[i]? = some y ∧ KR nt x.1 y.1 ∧ x.2 = y.2
  | [], [], _, _ => .inl ⟨rfl, rfl⟩
  | x :: l, y :: k, h, 0 => .inr ⟨x, y, rfl, rfl, h.1, h.2.1⟩
  | x :: l, y :: k, h, i + 1 => by simpa using SR.get h.2.2 i
  | [], _ :: _, h, _ => h.elim
  | _ :: _, [], h, _ => h.elim
theorem SR.last : ∀ {l : List (RT × AMem)} {k : List (List AV × AMem)}, SR nt l k → ∀ x, l.getLast? = some x → ∃ y, k.getLast? = some y ∧ KR nt x.1 y.1 ∧ x.2 = y.2
  | [], [], _, x, h => by simp at h
  | [a], [b], h, x, hx => by
    simp only [List.getLast?_singleton, Option.some.injEq] at hx; subst hx
    exact ⟨b, rfl, h.1, h.2.1⟩
  | a :: a2 :: l, b :: b2 :: k, h, x, hx => by
    rw [List.getLast?_cons_cons] at hx
    obtain ⟨y, h1, h2⟩ := SR.last h.2.2 x hx
    exact ⟨y, by rw [List.getLast?_cons_cons]; exact h1, h2⟩
  | [_], _ :: _ :: _, h, _, _ => h.2.2.elim
  | _ :: _ :: _, [_], h, _, _ => h.2.2.elim
  | [], _ :: _, h, _, _ => h.elim
  | _ :: _, [], h, _, _ => h.elim
theorem statesK_sound (hC : C.le C') : ∀ {l : List VOper} {t : RT} {r : List AV} {m : AMem} {st : List (RT × AMem)}, KR nt t r → statesK nt C l t m = some st → ∃ st', states C' l r m = some st' ∧ SR nt st st'
  | [], t, r, m, st, h, hx => by
    simp only [statesK, Option.some.injEq] at hx; subst hx
    exact ⟨_, rfl, h, rfl, trivial⟩
  | o :: l, t, r, m, st, h, hx => by
    simp only [statesK] at hx
    cases hs : stepK nt C o t m with
    | none => rw [hs] at hx; simp [kNext] at hx
    | some q =>
      obtain ⟨t1, m1⟩ := q
      rw [hs] at hx
      simp only [kNext] at hx
      cases hk : statesK nt C l t1 m1 with
      | none => rw [hk] at hx; simp [kCons] at hx
      | some st1 =>
        rw [hk] at hx
        simp only [kCons, Option.some.injEq] at hx
        subst hx
        obtain ⟨r1, e1, h1⟩ := stepK_sound hC h hs
        obtain ⟨st', e2, h2⟩ := statesK_sound hC h1 hk
        exact ⟨(r, m) :: st', by simp only [states, e1, e2, Option.map_some], h, rfl, h2⟩
theorem sameK_eq {o : VOper} {st : List (RT × AMem)} {st' : List (List AV × AMem)} (h : SR nt st st') (p q : Nat) (hx : sameK o st p q = true) : sameRead o st' p q = true := by
  unfold sameK at hx
  unfold sameRead
  rcases h.get p with ⟨e1, _⟩ | ⟨x, y, e1, e2, h1, h2⟩
  · rw [e1] at hx; simp at hx
  rcases h.get q with ⟨e3, _⟩ | ⟨x1, y1, e3, e4, h3, h4⟩
  · rw [e1, e3] at hx; simp at hx
  rcases h.get (q + 1) with ⟨e5, _⟩ | ⟨x2, y2, e5, e6, h5, h6⟩
  · rw [e1, e3, e5] at hx; simp at hx
  obtain ⟨t, m⟩ := x; obtain ⟨t1, m1⟩ := x1; obtain ⟨t2, m2⟩ := x2
  obtain ⟨r, m'⟩ := y; obtain ⟨r1, m1'⟩ := y1; obtain ⟨r2, m2'⟩ := y2
  simp only at h1 h2 h4 h6
  subst h2; subst h4; subst h6
  rw [e1, e3, e5] at hx
  rw [e2, e4, e6]
  simp only at hx ⊢
  rw [← wantsK_eq h1]
  cases hw : wantsK o.g t with
  | false => simp
  | true =>
    rw [hw] at hx
    simp only [if_true]
    simp only [execK_eq, ← h1.ev, ← execE_eq] at hx
    unfold kSame at hx
    split at hx
    · rename_i g1 g2 g3
      simp only [g1, g2, g3]; exact hx
    · simp at hx
theorem kCk_eq {l : List VOper} {st : List (RT × AMem)} {st' : List (List AV × AMem)} (h : SR nt st st') : ∀ (ck : List (Nat × Nat)), kCk l st ck = true → (ck.all (fun x => match l[x.1]? with | some o => sameRead o st' x.1 x.2 | none => false)) = true
  | [], _ => rfl
  | (p, q) :: ck, hx => by
    simp only [kCk, Bool.and_eq_true] at hx
    obtain ⟨h1, h2⟩ := hx
    simp only [List.all_cons, Bool.and_eq_true]
    refine ⟨?_, kCk_eq h ck h2⟩
    split at h1
    · rename_i o ho
      simp only [ho]; exact sameK_eq h p q h1
    · simp at h1
theorem runDrawK_sound (hC : C.le C') {l : List VOper} {ck : List (Nat × Nat)} (h : KR nt t r) (hx : runDrawK nt C l ck t m = some (t', m')) : ∃ r', runDraw C' l ck r m = some (r', m') ∧ KR nt t' r' := by
  unfold runDrawK at hx
  split at hx
  · obtain ⟨r', e1, h1⟩ := runOpsK_sound hC h hx
    obtain ⟨st, e2, e3⟩ := runOps_states e1
    exact ⟨r', by simp only [runDraw, e2, List.all_nil, if_true, e3], h1⟩
  · unfold kLast at hx
    split at hx
    case h_2 => simp at hx
    rename_i st hst
    obtain ⟨st', e1, h1⟩ := statesK_sound hC h hst
    cases hck : kCk l st ck with
    | false => rw [hck] at hx; simp at hx
    | true =>
      rw [hck] at hx
      simp only [cond_true] at hx
      obtain ⟨y, e2, h2, h3⟩ := h1.last _ hx
      refine ⟨y.1, ?_, h2⟩
      simp only [runDraw, e1]
      refine (if_pos (kCk_eq h1 ck hck)).trans ?_
      rw [e2]
      simp only at h3
      rw [h3]
theorem loopK_sound {body : RT → AMem → OutK} {body' : List AV → AMem → Out} (hb : ∀ (t : RT) (r : List AV) (m : AMem) (ex : Ex) (t' : RT) (m' : AMem), KR nt t r → body t m = some (ex, t', m') → ∃ r', body' r m = some (ex, r', m') ∧ KR nt t' r') : ∀ (k : Nat) {t : RT} {r : List AV} {m : AMem} {ex : Ex} {t' : RT} {m' : AMem}, KR nt t r → loopK body k t m = some (ex, t', m') → ∃ r', loopF body' k r m = some (ex, r', m') ∧ KR nt t' r'
  | 0, t, r, m, ex, t', m', h, hx => by simp [loopK] at hx
  | k + 1, t, r, m, ex, t', m', h, hx => by
    simp only [loopK] at hx
    cases hbd : body t m with
    | none => rw [hbd] at hx; simp [kSeq] at hx
    | some q =>
      obtain ⟨e1, t1, m1⟩ := q
      rw [hbd] at hx
      obtain ⟨r1, g1, h1⟩ := hb _ _ _ _ _ _ h hbd
      cases e1 with
      | n =>
        simp only [kSeq] at hx
        obtain ⟨r', g2, h2⟩ := loopK_sound hb k h1 hx
        exact ⟨r', by simp only [loopF, g1, g2], h2⟩
      | x i =>
        simp only [kSeq, Option.some.injEq, Prod.mk.injEq] at hx
        obtain ⟨rfl, rfl, rfl⟩ := hx
        exact ⟨r1, by simp only [loopF, g1], h1⟩
      | ret =>
        simp only [kSeq, Option.some.injEq, Prod.mk.injEq] at hx
        obtain ⟨rfl, rfl, rfl⟩ := hx
        exact ⟨r1, by simp only [loopF, g1], h1⟩
theorem runK_sound (hC : C.le C') : ∀ (c : VC) {t : RT} {r : List AV} {m : AMem} {ex : Ex} {t' : RT} {m' : AMem}, KR nt t r → runK nt C n c t m = some (ex, t', m') → ∃ r', run C' (runDraw C') n c r m = some (ex, r', m') ∧ KR nt t' r'
  | .skip, t, r, m, ex, t', m', h, hx => by
    simp only [runK, Option.some.injEq, Prod.mk.injEq] at hx
    obtain ⟨rfl, rfl, rfl⟩ := hx
    exact ⟨r, rfl, h⟩
  | .reg l, t, r, m, ex, t', m', h, hx => by
    simp only [runK] at hx
    cases ho : runOpsK nt C l t m with
    | none => rw [ho] at hx; simp [kN] at hx
    | some q =>
      rw [ho] at hx
      simp only [kN, Option.some.injEq, Prod.mk.injEq] at hx
      obtain ⟨rfl, rfl, rfl⟩ := hx
      obtain ⟨r', e1, h1⟩ := runOpsK_sound hC h ho
      exact ⟨r', by simp only [run, e1, Option.map_some], h1⟩
  | .regd l ck, t, r, m, ex, t', m', h, hx => by
    simp only [runK] at hx
    cases ho : runDrawK nt C l ck t m with
    | none => rw [ho] at hx; simp [kN] at hx
    | some q =>
      rw [ho] at hx
      simp only [kN, Option.some.injEq, Prod.mk.injEq] at hx
      obtain ⟨rfl, rfl, rfl⟩ := hx
      obtain ⟨r', e1, h1⟩ := runDrawK_sound hC h ho
      exact ⟨r', by simp only [run, e1, Option.map_some], h1⟩
  | .seq a b, t, r, m, ex, t', m', h, hx => by
    simp only [runK] at hx
    cases ha : runK nt C n a t m with
    | none => rw [ha] at hx; simp [kSeq] at hx
    | some q =>
      obtain ⟨e1, t1, m1⟩ := q
      rw [ha] at hx
      obtain ⟨r1, g1, h1⟩ := runK_sound hC a h ha
      cases e1 with
      | n =>
        simp only [kSeq] at hx
        obtain ⟨r', g2, h2⟩ := runK_sound hC b h1 hx
        exact ⟨r', by simp only [run, g1, g2], h2⟩
      | x i =>
        simp only [kSeq, Option.some.injEq, Prod.mk.injEq] at hx
        obtain ⟨rfl, rfl, rfl⟩ := hx
        exact ⟨r1, by simp only [run, g1], h1⟩
      | ret =>
        simp only [kSeq, Option.some.injEq, Prod.mk.injEq] at hx
        obtain ⟨rfl, rfl, rfl⟩ := hx
        exact ⟨r1, by simp only [run, g1], h1⟩
  | .cond x a b, t, r, m, ex, t', m', h, hx => by
    simp only [runK, ← h.ev] at hx
    unfold kCond at hx
    split at hx
    · rename_i e1
      obtain ⟨r', g, h'⟩ := runK_sound hC a h hx
      exact ⟨r', by simp only [run, e1, g], h'⟩
    · rename_i e1
      obtain ⟨r', g, h'⟩ := runK_sound hC b h hx
      exact ⟨r', by simp only [run, e1, g], h'⟩
    · simp at hx
  | .blk id b, t, r, m, ex, t', m', h, hx => by
    simp only [runK] at hx
    cases ha : runK nt C n b t m with
    | none => rw [ha] at hx; simp [kBlk] at hx
    | some q =>
      obtain ⟨e1, t1, m1⟩ := q
      rw [ha] at hx
      obtain ⟨r1, g1, h1⟩ := runK_sound hC b h ha
      cases e1 with
      | x i =>
        simp only [kBlk] at hx
        by_cases hid : i = id
        · rw [beqT hid] at hx
          simp only [cond_true, Option.some.injEq, Prod.mk.injEq] at hx
          obtain ⟨rfl, rfl, rfl⟩ := hx
          exact ⟨r1, by simp only [run, g1, if_pos hid], h1⟩
        · rw [beqF hid] at hx
          simp only [cond_false, Option.some.injEq, Prod.mk.injEq] at hx
          obtain ⟨rfl, rfl, rfl⟩ := hx
          exact ⟨r1, by simp only [run, g1, if_neg hid], h1⟩
      | n =>
        simp only [kBlk, Option.some.injEq, Prod.mk.injEq] at hx
        obtain ⟨rfl, rfl, rfl⟩ := hx
        exact ⟨r1, by simp only [run, g1], h1⟩
      | ret =>
        simp only [kBlk, Option.some.injEq, Prod.mk.injEq] at hx
        obtain ⟨rfl, rfl, rfl⟩ := hx
        exact ⟨r1, by simp only [run, g1], h1⟩
  | .loop b, t, r, m, ex, t', m', h, hx => by
    simp only [runK] at hx
    obtain ⟨r', g, h'⟩ := loopK_sound (body' := fun r m => run C' (runDraw C') n b r m) (fun _ _ _ _ _ _ h hx => runK_sound hC b h hx) n h hx
    exact ⟨r', by simp only [run, g], h'⟩
  | .exit id, t, r, m, ex, t', m', h, hx => by
    simp only [runK, Option.some.injEq, Prod.mk.injEq] at hx
    obtain ⟨rfl, rfl, rfl⟩ := hx
    exact ⟨r, rfl, h⟩
  | .ret, t, r, m, ex, t', m', h, hx => by
    simp only [runK, Option.some.injEq, Prod.mk.injEq] at hx
    obtain ⟨rfl, rfl, rfl⟩ := hx
    exact ⟨r, rfl, h⟩
  | .rfn x ps a b, t, r, m, ex, t', m', h, hx => by
    have hr : (List.range nt).map t.get = r := Agree.unique (Agree.mk' h.agree.beyond) h.agree
    simp only [runK, hr, ← h.ev] at hx
    simp only [run]
    unfold kRfn at hx
    split at hx
    case h_2 => simp at hx
    rename_i l m1 g first cap hen e1
    simp only [hen, e1]
    unfold kLeave at hx
    split at hx
    case h_2 => simp at hx
    rename_i v0 m2 hc
    rw [hC _ _ _ _ hc]
    simp only
    split at hx
    case h_2 => simp at hx
    rename_i hg
    simp only [hg]
    split at hx
    · simp at hx
    · rename_i hst
      simp only [Option.some.injEq, Prod.mk.injEq] at hx
      obtain ⟨rfl, rfl, rfl⟩ := hx
      exact ⟨r, by rw [if_neg hst], h⟩
theorem fill_ok : ∀ (l : List AV) (i : Nat) (t : RT), RT.ok 8 t → RT.ok 8 (RT.fill t i l)
  | [], _, _, h => h
  | v :: l, i, t, h => fill_ok l (i + 1) _ (RT.ok_set h)
theorem fill_get : ∀ (l : List AV) (i : Nat) (t : RT), RT.ok 8 t → i + l.length ≤ 254 → ∀ j, (RT.fill t i l).get j = if i ≤ j ∧ j < i + l.length then l.getD (j - i) un else t.get j
  | [], i, t, _, _, j => by simp only [RT.fill]; rw [if_neg (by simp only [List.length_nil]; omega)]
  | v :: l, i, t, h, hl, j => by
    simp only [List.length_cons] at hl
    simp only [RT.fill]
    rw [fill_get l (i + 1) _ (RT.ok_set h) (by omega), RT.get_set h (by omega)]
    by_cases h1 : j = i
    · subst h1
      rw [if_neg (by omega), if_pos rfl, if_pos (by simp), Nat.sub_self]; rfl
    · by_cases h2 : i + 1 ≤ j ∧ j < i + 1 + l.length
      · rw [if_pos h2, if_pos (by simp; omega)]
        have : j - i = (j - (i + 1)) + 1 := by omega
        rw [this]; simp
      · rw [if_neg h2, if_neg h1, if_neg (by simp; omega)]
theorem KR.start {args : List AV} (h1 : nt ≤ 254) (h2 : args.length ≤ nt) : KR nt (RT.fill (RT.full 8) 0 args) (args ++ List.replicate (nt - args.length) un) := by
  refine ⟨h1, fill_ok _ _ _ (RT.ok_full 8), by simp; omega, fun i => ?_⟩
  rw [fill_get _ _ _ (RT.ok_full 8) (by omega), RT.get_full]
  simp only [List.getD_eq_getElem?_getD, Nat.zero_le, true_and, Nat.zero_add, Nat.sub_zero]
  by_cases hi : i < args.length
  · rw [if_pos hi, List.getElem?_append_left hi]
  · rw [if_neg hi, List.getElem?_append_right (by omega), List.getElem?_replicate]
    split <;> rfl
theorem resK_eq (g : Nat → AV) (m : AMem) : ∀ l, resK g m l = resX g m l
  | [] => rfl
  | .t n :: l => by simp only [resK, resX, resK_eq g m l]
  | .c n none :: l => by simp only [resK, resX, resK_eq g m l]; rfl
  | .c n (some k) :: l => by simp only [resK, resX, resK_eq g m l]; rfl
theorem goK_sound (hC : C.le C') {res : List VRes} {body : VC} {args : List AV} {x : AV × AMem} (hx : goK C n nt res body args m = some x) : goF (run C' (runDraw C') n) nt res body args m = some x := by
  unfold goK at hx
  cases hb : (Nat.ble nt 254 && Nat.ble args.length nt) with
  | false => rw [hb] at hx; simp at hx
  | true =>
    rw [hb] at hx
    simp only [cond_true] at hx
    simp only [Bool.and_eq_true, Nat.ble_eq] at hb
    have fin : ∀ (ex : Ex) (t1 : RT) (m1 : AMem) (r1 : List AV), Agree nt r1 t1.get → kEnd res m t1 (leaveE m1.ds m1) = some x → (match leaveE m1.ds m1 with | some m2 => (resE r1 m2 res).map fun l => (tupE l, { m2 with ds := m.ds, ro := m.ro }) | none => none) = some x := by
      intro ex t1 m1 r1 ha he
      unfold kEnd at he
      split at he
      · rename_i m2 hl
        simp only [hl]
        unfold kOut at he
        split at he
        · rename_i l hl2
          rw [resK_eq, ← ha.gOf, ← resX_eq] at hl2
          rw [hl2]; exact he
        · simp at he
      · simp at he
    unfold kRet at hx
    unfold goF
    split at hx
    · rename_i t1 m1 hr
      obtain ⟨r1, g1, h1⟩ := runK_sound hC body (KR.start hb.1 hb.2) hr
      simp only [g1]
      exact fin .n t1 m1 r1 h1.agree hx
    · rename_i t1 m1 hr
      obtain ⟨r1, g1, h1⟩ := runK_sound hC body (KR.start hb.1 hb.2) hr
      simp only [g1]
      exact fin .ret t1 m1 r1 h1.agree hx
    · simp at hx
theorem setMany_length : ∀ (ps : List Nat) (args r : List AV), (setMany r ps args).length = r.length
  | [], args, r => by cases args <;> rfl
  | p :: ps, [], r => rfl
  | p :: ps, a :: args, r => by simp only [setMany]; rw [setMany_length ps args]; simp
theorem roundK_sound (hC : C.le C') {l : Nat} {args : List AV} {x : AV × AMem} (hx : roundK C n l args m = some x) : roundF (run C' (runDraw C') n) l args m = some x := by
  unfold roundK at hx
  unfold roundF
  split at hx
  case h_2 => simp at hx
  rename_i r ps asg body hg
  simp only [hg]
  cases hb : (Nat.beq args.length ps.length && Nat.ble r.length 254) with
  | false => rw [hb] at hx; simp at hx
  | true =>
    rw [hb] at hx
    simp only [cond_true] at hx
    simp only [Bool.and_eq_true, Nat.ble_eq] at hb
    have hlen : args.length = ps.length := Nat.eq_of_beq_eq_true hb.1
    rw [if_pos hlen]
    have hs : KR r.length (RT.fill (RT.full 8) 0 (setMany r ps args)) (setMany r ps args) := by
      have := KR.start (nt := r.length) (args := setMany r ps args) hb.2 (by rw [setMany_length]; exact Nat.le_refl _)
      rw [setMany_length, Nat.sub_self] at this
      simpa using this
    unfold kRoundMid at hx
    split at hx
    case h_2 => simp at hx
    rename_i t1 m1 hr
    obtain ⟨r1, g1, h1⟩ := runK_sound hC asg hs hr
    simp only [g1]
    split at hx
    case h_2 => simp at hx
    rename_i r' ps' asg' body' hg1
    simp only [hg1]
    unfold kRoundEnd at hx
    split at hx
    case h_2 => simp at hx
    rename_i ex t2 m2 hr2
    obtain ⟨r2, g2, h2⟩ := runK_sound hC body h1 hr2
    simp only [g2]
    exact hx
end
theorem callK_sound {T : Nat → VFn} : ∀ (n : Nat), (callK T n).le (ev T n)
  | 0 => fun f args m x h => by simp [callK] at h
  | n + 1 => fun c args m x h => by
    have ih := callK_sound (T := T) n
    show callF runDraw T (n + 1) c args m = some x
    cases c with
    | f f =>
      simp only [callK] at h
      simp only [callF]
      generalize T f = F at *
      cases F with
      | go nt res body => exact goK_sound ih h
      | ext g => exact h
      | sum g => exact h
      | none => exact h
    | it f =>
      simp only [callK] at h
      simp only [callF]
      generalize T f = F at *
      cases F with
      | go nt res body => exact goK_sound ih h
      | ext g => simp [kFn] at h
      | sum g => simp [kFn] at h
      | none => simp [kFn] at h
    | y l =>
      simp only [callK] at h
      simp only [callF]
      exact roundK_sound ih h
end Go.Vi
