/- Regions that draw their order: run in one order, with a look whether any other could tell. No condition. -/
import Derived.Test.YtfbglgmhhmeoeaaGreatDoorWbViCode
namespace Go.Vi
open Go.RowKit
set_option linter.unusedSimpArgs false
set_option linter.unusedVariables false
def X.tm : X → List Nat
  | .t n => [n]
  | .c _ => []
def oTm : Option X → List Nat
  | some x => x.tm
  | none => []
def VO.uses : VO → List Nat
  | .mv x | .box _ x | .ld x | .ldn _ x | .nc x | .un _ x | .cvi _ x | .cvs x | .sbs x | .fa _ x | .fl _ _ x | .ext x _ | .len _ x | .cap x | .clr _ x | .mif _ x | .tas _ _ x | .rgs x | .nxs x | .cvm x | .pcv x | .pcu _ _ x | .usd x | .i2s x => x.tm
  | .pick a b c | .mup _ a b c => a.tm ++ b.tm ++ c.tm
  | .st _ a b | .bin _ a b | .eqb _ a b | .eqn _ _ a b | .eqa _ _ a b | .eqp _ a b | .ia _ a b | .iaA _ _ a b | .ixs a b | .ixA _ _ _ a b | .app _ _ a b | .cpy _ a b | .mks _ _ _ a b | .lkp _ _ _ a b | .ustr _ a b => a.tm ++ b.tm
  | .alloc .. | .lenA _ | .mkm | .bad => []
  | .build _ ps | .bsl _ _ _ ps => ps.flatMap fun q => q.2.2.tm
  | .fn f a b => f.tm ++ a.flatMap X.tm ++ b.flatMap X.tm
  | .fnc _ a b => a.flatMap X.tm ++ b.flatMap X.tm
  | .slc _ x lo hi hm => x.tm ++ oTm lo ++ oTm hi ++ oTm hm
  | .sls x lo hi | .sla _ _ x lo hi => x.tm ++ oTm lo ++ oTm hi
  | .mn xs | .mx xs | .call _ xs => xs.flatMap X.tm
  | .cv f xs => f.tm ++ xs.flatMap X.tm
def VO.eff : VO → Bool
  | .alloc .. | .box .. | .bsl .. | .st .. | .sbs _ | .mks .. | .app .. | .cpy .. | .clr .. | .mkm | .mup .. | .call .. | .cv .. | .cvs _ | .lkp .. | .cvm _ | .pcv _ | .pcu .. | .ustr .. | .rgs _ | .nxs _ => true
  | .len k _ => k == 2
  | _ => false
def VO.rd : VO → Bool
  | .ld _ | .ldn .. => true
  | _ => false
section
variable {C : CallF} {r r2 : List AV} {m m' m2 : AMem} {v : AV}
theorem ev_congr {x : X} (h : ∀ t ∈ x.tm, r.getD t un = r2.getD t un) : x.ev r = x.ev r2 := by
  cases x with
  | t n => exact h n (by simp [X.tm])
  | c v => rfl
theorem evs_congr {l : List X} (h : ∀ t ∈ l.flatMap X.tm, r.getD t un = r2.getD t un) : l.map (X.ev r) = l.map (X.ev r2) := by
  refine List.map_congr_left fun x hx => ev_congr fun t ht => h t (List.mem_flatMap.2 ⟨x, hx, ht⟩)
theorem fillE_congr : ∀ {ps : List (Nat × Nat × X)} {c : List AV}, (∀ t ∈ ps.flatMap fun q => q.2.2.tm, r.getD t un = r2.getD t un) → fillE r ps c = fillE r2 ps c
  | [], c, _ => rfl
  | (o, n, x) :: ps, c, h => by
    have h1 : x.ev r = x.ev r2 := ev_congr fun t ht => h t (by simp [ht])
    simp only [fillE, h1]
    split
    · exact fillE_congr fun t ht => h t (by simp at ht ⊢; exact .inr ht)
    · rfl
theorem bounds_congr {lo hi hm : Option X} {len cap : Nat} (h1 : ∀ t ∈ oTm lo, r.getD t un = r2.getD t un) (h2 : ∀ t ∈ oTm hi, r.getD t un = r2.getD t un) (h3 : ∀ t ∈ oTm hm, r.getD t un = r2.getD t un) : boundsE r len cap lo hi hm = boundsE r2 len cap lo hi hm := by
  have hx : ∀ {o : Option X}, (∀ t ∈ oTm o, r.getD t un = r2.getD t un) → ∀ x, o = some x → x.ev r = x.ev r2 := by
    intro o ho x e
    subst e
    exact ev_congr ho
  cases lo <;> cases hi <;> cases hm <;> simp only [boundsE] <;> (try rw [hx h1 _ rfl]) <;> (try rw [hx h2 _ rfl]) <;> (try rw [hx h3 _ rfl])
theorem exec_congr {o : VO} (h : ∀ t ∈ o.uses, r.getD t un = r2.getD t un) : exec o r m = exec o r2 m := by
  cases o <;> simp only [VO.uses, List.mem_append] at h
  case mv x => simp only [exec, ev_congr h]
  case pick a b c => simp only [exec, ev_congr (x := a) fun t ht => h t (.inl (.inl ht)), ev_congr (x := b) fun t ht => h t (.inl (.inr ht)), ev_congr (x := c) fun t ht => h t (.inr ht)]
  case alloc ty z => rfl
  case box n x => simp only [exec, ev_congr h]
  case build z ps => simp only [exec, fillE_congr h]
  case bsl n l z ps => simp only [exec, fillE_congr h]
  case ld x => simp only [exec, ev_congr h]
  case ldn n x => simp only [exec, ev_congr h]
  case st n a b => simp only [exec, ev_congr (x := a) fun t ht => h t (.inl ht), ev_congr (x := b) fun t ht => h t (.inr ht)]
  case nc x => simp only [exec, ev_congr h]
  case bin op a b => simp only [exec, ev_congr (x := a) fun t ht => h t (.inl ht), ev_congr (x := b) fun t ht => h t (.inr ht)]
  case eqb op a b => simp only [exec, ev_congr (x := a) fun t ht => h t (.inl ht), ev_congr (x := b) fun t ht => h t (.inr ht)]
  case eqn k op a b => simp only [exec, ev_congr (x := a) fun t ht => h t (.inl ht), ev_congr (x := b) fun t ht => h t (.inr ht)]
  case eqa op n a b => simp only [exec, ev_congr (x := a) fun t ht => h t (.inl ht), ev_congr (x := b) fun t ht => h t (.inr ht)]
  case eqp n a b => simp only [exec, ev_congr (x := a) fun t ht => h t (.inl ht), ev_congr (x := b) fun t ht => h t (.inr ht)]
  case un op x => simp only [exec, ev_congr h]
  case cvi k x => simp only [exec, ev_congr h]
  case cvs x => simp only [exec, ev_congr h]
  case sbs x => simp only [exec, ev_congr h]
  case fn f a b => simp only [exec, ev_congr (x := f) fun t ht => h t (.inl (.inl ht)), evs_congr (l := a) fun t ht => h t (.inl (.inr ht)), evs_congr (l := b) fun t ht => h t (.inr ht)]
  case fnc f a b => simp only [exec, evs_congr (l := a) fun t ht => h t (.inl ht), evs_congr (l := b) fun t ht => h t (.inr ht)]
  case mks n b z x y => simp only [exec, ev_congr (x := x) fun t ht => h t (.inl ht), ev_congr (x := y) fun t ht => h t (.inr ht)]
  case slc n x lo hi mx =>
    have h4 := fun l c => bounds_congr (len := l) (cap := c) (lo := lo) (hi := hi) (hm := mx) (r := r) (r2 := r2) (fun t ht => h t (.inl (.inl (.inr ht)))) (fun t ht => h t (.inl (.inr ht))) (fun t ht => h t (.inr ht))
    simp only [exec, ev_congr (x := x) fun t ht => h t (.inl (.inl (.inl ht))), h4]
  case sls x lo hi =>
    have h4 := fun l c => bounds_congr (len := l) (cap := c) (lo := lo) (hi := hi) (hm := none) (r := r) (r2 := r2) (fun t ht => h t (.inl (.inr ht))) (fun t ht => h t (.inr ht)) (fun t ht => by simp [oTm] at ht)
    simp only [exec, ev_congr (x := x) fun t ht => h t (.inl (.inl ht)), h4]
  case sla n e x lo hi =>
    have h4 := fun l c => bounds_congr (len := l) (cap := c) (lo := lo) (hi := hi) (hm := none) (r := r) (r2 := r2) (fun t ht => h t (.inl (.inr ht))) (fun t ht => h t (.inr ht)) (fun t ht => by simp [oTm] at ht)
    simp only [exec, ev_congr (x := x) fun t ht => h t (.inl (.inl ht)), h4]
  case fa n x => simp only [exec, ev_congr h]
  case fl n k x => simp only [exec, ev_congr h]
  case ia n a b => simp only [exec, ev_congr (x := a) fun t ht => h t (.inl ht), ev_congr (x := b) fun t ht => h t (.inr ht)]
  case iaA l n a b => simp only [exec, ev_congr (x := a) fun t ht => h t (.inl ht), ev_congr (x := b) fun t ht => h t (.inr ht)]
  case ixs a b => simp only [exec, ev_congr (x := a) fun t ht => h t (.inl ht), ev_congr (x := b) fun t ht => h t (.inr ht)]
  case ixA l n k a b => simp only [exec, ev_congr (x := a) fun t ht => h t (.inl ht), ev_congr (x := b) fun t ht => h t (.inr ht)]
  case ext x k => simp only [exec, ev_congr h]
  case len k x => simp only [exec, ev_congr h]
  case lenA n => rfl
  case cap x => simp only [exec, ev_congr h]
  case app n k a b => simp only [exec, ev_congr (x := a) fun t ht => h t (.inl ht), ev_congr (x := b) fun t ht => h t (.inr ht)]
  case cpy n a b => simp only [exec, ev_congr (x := a) fun t ht => h t (.inl ht), ev_congr (x := b) fun t ht => h t (.inr ht)]
  case clr z x => simp only [exec, ev_congr h]
  case mn xs => simp only [exec, evs_congr h]
  case mx xs => simp only [exec, evs_congr h]
  case mkm => rfl
  case lkp sk z k a b => simp only [exec, ev_congr (x := a) fun t ht => h t (.inl ht), ev_congr (x := b) fun t ht => h t (.inr ht)]
  case cvm x => simp only [exec, ev_congr h]
  case mup sk a b c => simp only [exec, ev_congr (x := a) fun t ht => h t (.inl (.inl ht)), ev_congr (x := b) fun t ht => h t (.inl (.inr ht)), ev_congr (x := c) fun t ht => h t (.inr ht)]
  case mif k x => simp only [exec, ev_congr h]
  case tas k z x => simp only [exec, ev_congr h]
  case rgs x => simp only [exec, ev_congr h]
  case nxs x => simp only [exec, ev_congr h]
  case pcv x => simp only [exec, ev_congr h]
  case pcu k n x => simp only [exec, ev_congr h]
  case usd x => simp only [exec, ev_congr h]
  case i2s x => simp only [exec, ev_congr h]
  case ustr n a b => simp only [exec, ev_congr (x := a) fun t ht => h t (.inl ht), ev_congr (x := b) fun t ht => h t (.inr ht)]
  case bad => rfl
  case call f xs => rfl
  case cv f xs => rfl
theorem execC_congr {o : VO} (h : ∀ t ∈ o.uses, r.getD t un = r2.getD t un) : execC C o r m = execC C o r2 m := by
  by_cases hc : o.isCall = true
  · cases o <;> simp [VO.isCall] at hc
    case call f xs => simp only [VO.uses] at h; simp only [execC, evs_congr h]
    case cv f xs =>
      simp only [VO.uses, List.mem_append] at h
      simp only [execC, ev_congr (x := f) fun t ht => h t (.inl ht), evs_congr (l := xs) fun t ht => h t (.inr ht)]
  · rw [execC_plain (by simpa using hc), execC_plain (by simpa using hc)]
    exact exec_congr h
theorem exec_still {o : VO} (h : o.eff = false) (he : exec o r m = some (v, m')) : m' = m ∧ (o.rd = false → ∀ m2, exec o r m2 = some (v, m2)) := by
  cases o <;> simp [VO.eff] at h <;> simp only [exec, VO.rd] at he ⊢
  case mv x => simp at he ⊢; obtain ⟨rfl, rfl⟩ := he; simp
  case pick a b c => split at he <;> simp at he; obtain ⟨rfl, rfl⟩ := he; simp
  case build z ps => obtain ⟨u, hu, he⟩ := Option.map_eq_some_iff.1 he; simp at he; obtain ⟨rfl, rfl⟩ := he; simp [hu]
  case ld x =>
    refine ⟨?_, fun h => by simp at h⟩
    split at he <;> try (simp at he; done)
    split at he <;> try (simp at he; done)
    obtain ⟨u, hu, he⟩ := Option.map_eq_some_iff.1 he; simp at he; exact he.2.symm
  case ldn n x =>
    refine ⟨?_, fun h => by simp at h⟩
    split at he <;> try (simp at he; done)
    obtain ⟨u, hu, he⟩ := Option.map_eq_some_iff.1 he; simp at he; exact he.2.symm
  case nc x => split at he <;> simp at he <;> (obtain ⟨rfl, rfl⟩ := he; simp)
  case bin op a b => obtain ⟨u, hu, he⟩ := Option.map_eq_some_iff.1 he; simp at he; obtain ⟨rfl, rfl⟩ := he; simp [hu]
  case eqb op a b => split at he <;> simp at he; obtain ⟨rfl, rfl⟩ := he; simp
  case eqn k op a b =>
    split at he
    · split at he
      · rename_i hh; simp only [Option.some.injEq, Prod.mk.injEq] at he; obtain ⟨rfl, rfl⟩ := he; simp [hh]
      · simp at he
    · simp at he
  case eqa op n a b =>
    split at he
    · obtain ⟨u, hu, he⟩ := Option.map_eq_some_iff.1 he; simp only [Prod.mk.injEq] at he; obtain ⟨rfl, rfl⟩ := he; simp [hu]
    · simp at he
  case eqp n a b =>
    split at he
    · split at he
      · rename_i hh; simp only [Option.some.injEq, Prod.mk.injEq] at he; obtain ⟨rfl, rfl⟩ := he; simp [hh]
      · simp at he
    · simp at he
  case un op x => obtain ⟨u, hu, he⟩ := Option.map_eq_some_iff.1 he; simp at he; obtain ⟨rfl, rfl⟩ := he; simp [hu]
  case cvi k x => split at he <;> simp at he; obtain ⟨rfl, rfl⟩ := he; simp
  case fn f a b => split at he <;> simp at he; obtain ⟨rfl, rfl⟩ := he; simp
  case fnc f a b => simp at he ⊢; obtain ⟨rfl, rfl⟩ := he; simp
  case slc n x lo hi mx =>
    split at he
    · split at he
      · split at he
        · simp only [Option.some.injEq, Prod.mk.injEq] at he; obtain ⟨rfl, rfl⟩ := he; simp
        · split at he
          · rename_i hh; simp only [Option.some.injEq, Prod.mk.injEq] at he; obtain ⟨rfl, rfl⟩ := he; simp [hh]
          · rename_i hh; split at he
            · rename_i h2; simp only [Option.some.injEq, Prod.mk.injEq] at he; obtain ⟨rfl, rfl⟩ := he; simp [hh, h2]
            · rename_i h2; split at he
              · rename_i h3; simp only [Option.some.injEq, Prod.mk.injEq] at he; obtain ⟨rfl, rfl⟩ := he; simp [hh, h2, h3]
              · rename_i h3; split at he
                · rename_i h4; simp only [Option.some.injEq, Prod.mk.injEq] at he; obtain ⟨rfl, rfl⟩ := he; simp [hh, h2, h3, h4]
                · simp at he
      · simp at he
    · split at he
      · split at he
        · rename_i h1; simp only [Option.some.injEq, Prod.mk.injEq] at he; obtain ⟨rfl, rfl⟩ := he; simp [h1]
        · simp at he
      · simp at he
    · simp at he
  case sls x lo hi =>
    split at he
    · split at he
      · simp only [Option.some.injEq, Prod.mk.injEq] at he; obtain ⟨rfl, rfl⟩ := he; simp
      · simp at he
    · simp at he
  case sla n e x lo hi =>
    split at he
    · split at he
      · simp only [Option.some.injEq, Prod.mk.injEq] at he; obtain ⟨rfl, rfl⟩ := he; simp
      · simp at he
    · simp at he
  case fa n x => split at he <;> simp at he; obtain ⟨rfl, rfl⟩ := he; simp
  case fl n k x =>
    split at he
    · split at he
      · simp only [Option.some.injEq, Prod.mk.injEq] at he; obtain ⟨rfl, rfl⟩ := he; simp
      · obtain ⟨u, hu, he⟩ := Option.map_eq_some_iff.1 he; simp only [Prod.mk.injEq] at he; obtain ⟨rfl, rfl⟩ := he; simp [hu]
    · simp at he
  case ia n a b =>
    split at he
    · split at he
      · rename_i hh; simp only [Option.some.injEq, Prod.mk.injEq] at he; obtain ⟨rfl, rfl⟩ := he; simp [hh]
      · simp at he
    · simp at he
  case iaA l n a b =>
    split at he
    · split at he
      · rename_i hh; simp only [Option.some.injEq, Prod.mk.injEq] at he; obtain ⟨rfl, rfl⟩ := he; simp [hh]
      · simp at he
    · simp at he
  case ixs a b =>
    split at he
    · split at he
      · rename_i hh; obtain ⟨u, hu, he⟩ := Option.map_eq_some_iff.1 he; simp only [Prod.mk.injEq] at he; obtain ⟨rfl, rfl⟩ := he; simp [hu, hh]
      · simp at he
    · simp at he
  case ixA l n k a b =>
    split at he
    · split at he
      · rename_i hh; split at he
        · simp only [Option.some.injEq, Prod.mk.injEq] at he; obtain ⟨rfl, rfl⟩ := he; simp [hh]
        · obtain ⟨u, hu, he⟩ := Option.map_eq_some_iff.1 he; simp only [Prod.mk.injEq] at he; obtain ⟨rfl, rfl⟩ := he; simp [hu, hh]
      · simp at he
    · simp at he
  case ext x k =>
    split at he
    · obtain ⟨u, hu, he⟩ := Option.map_eq_some_iff.1 he; simp only [Prod.mk.injEq] at he; obtain ⟨rfl, rfl⟩ := he; simp [hu]
    · simp at he
  case len k x =>
    split at he
    · simp at he; obtain ⟨rfl, rfl⟩ := he; simp
    · simp at he; obtain ⟨rfl, rfl⟩ := he; simp
    · simp at he; obtain ⟨rfl, rfl⟩ := he; simp
    · simp at h
    · simp at h
    · simp at he
  case lenA n => simp at he ⊢; obtain ⟨rfl, rfl⟩ := he; simp
  case cap x => split at he <;> simp at he <;> (obtain ⟨rfl, rfl⟩ := he; simp)
  case mn xs =>
    split at he
    · obtain ⟨u, hu, he⟩ := Option.map_eq_some_iff.1 he; simp only [Prod.mk.injEq] at he; obtain ⟨rfl, rfl⟩ := he; simp [hu]
    · simp at he
  case mx xs =>
    split at he
    · obtain ⟨u, hu, he⟩ := Option.map_eq_some_iff.1 he; simp only [Prod.mk.injEq] at he; obtain ⟨rfl, rfl⟩ := he; simp [hu]
    · simp at he
  case mif k x => simp at he ⊢; obtain ⟨rfl, rfl⟩ := he; simp
  case tas k z x =>
    split at he
    · split at he
      · rename_i hk; simp only [Option.some.injEq, Prod.mk.injEq] at he; obtain ⟨rfl, rfl⟩ := he; simp [hk]
      · rename_i hk; simp only [Option.some.injEq, Prod.mk.injEq] at he; obtain ⟨rfl, rfl⟩ := he; simp [hk]
    · simp only [Option.some.injEq, Prod.mk.injEq] at he; obtain ⟨rfl, rfl⟩ := he; simp
    · simp at he
  case usd x =>
    split at he
    · simp only [Option.some.injEq, Prod.mk.injEq] at he; obtain ⟨rfl, rfl⟩ := he; simp
    · split at he
      · simp at he
      · rename_i hh; simp only [Option.some.injEq, Prod.mk.injEq] at he; obtain ⟨rfl, rfl⟩ := he; simp [hh]
    · simp at he
  case i2s x => split at he <;> simp at he; obtain ⟨rfl, rfl⟩ := he; simp
  case bad => simp at he
end
end Go.Vi
namespace Go.Vi
open Go.RowKit
set_option linter.unusedSimpArgs false
set_option linter.unusedVariables false
mutual
def AV.beq : AV → AV → Bool
  | .b x, .b y => x == y
  | .i k n, .i k' n' => k == k' && n == n'
  | .s x, .s y => x.data.toList == y.data.toList
  | .p x, .p y => x == y
  | .sl a1 l1 c1 e1, .sl a2 l2 c2 e2 => a1 == a2 && l1 == l2 && c1 == c2 && e1 == e2
  | .es, .es => true
  | .m x, .m y => x == y
  | .f f1 a1 c1, .f f2 a2 c2 => f1 == f2 && AV.beqL a1 a2 && AV.beqL c1 c2
  | .nf, .nf => true
  | .ni, .ni => true
  | .ifc t x, .ifc u y => t == u && AV.beq x y
  | .agg l, .agg k => AV.beqL l k
  | .tup l, .tup k => AV.beqL l k
  | .yl z1, .yl z2 => z1 == z2
  | _, _ => false
def AV.beqL : List AV → List AV → Bool
  | [], [] => true
  | x :: l, y :: k => AV.beq x y && AV.beqL l k
  | _, _ => false
end
mutual
theorem AV.eq_of_beq : ∀ (x y : AV), AV.beq x y = true → x = y
  | .b _, y, h | .i _ _, y, h | .p _, y, h | .sl _ _ _ _, y, h | .es, y, h | .m _, y, h | .nf, y, h | .ni, y, h | .yl _, y, h => by
    cases y <;> simp_all [AV.beq]
  | .s x, y, h => by
    cases y <;> simp [AV.beq] at h
    rename_i z
    cases x; cases z; simp_all
  | .f f1 a1 c1, y, h => by
    cases y <;> simp [AV.beq] at h
    obtain ⟨⟨h1, h2⟩, h3⟩ := h
    rw [h1, AV.eqL_of_beq _ _ h2, AV.eqL_of_beq _ _ h3]
  | .ifc t x, y, h => by
    cases y <;> simp [AV.beq] at h
    rw [h.1, AV.eq_of_beq _ _ h.2]
  | .agg l, y, h => by
    cases y <;> simp [AV.beq] at h
    rw [AV.eqL_of_beq _ _ h]
  | .tup l, y, h => by
    cases y <;> simp [AV.beq] at h
    rw [AV.eqL_of_beq _ _ h]
theorem AV.eqL_of_beq : ∀ (x y : List AV), AV.beqL x y = true → x = y
  | [], y, h => by cases y <;> simp_all [AV.beqL]
  | x :: l, y, h => by
    cases y <;> simp [AV.beqL] at h
    rw [AV.eq_of_beq _ _ h.1, AV.eqL_of_beq _ _ h.2]
end
def states (C : CallF) : List VOper → List AV → AMem → Option (List (List AV × AMem))
  | [], r, m => some [(r, m)]
  | o :: l, r, m => match stepO C o r m with
    | some (r', m') => (states C l r' m').map ((r, m) :: ·)
    | none => none
def sameRead (o : VOper) (st : List (List AV × AMem)) (p q : Nat) : Bool :=
  match st[p]?, st[q]?, st[q + 1]? with
  | some (r, m), some (_, m1), some (_, m2) =>
    if wants o.g r then
      match exec o.o r m, exec o.o r m1, exec o.o r m2 with
      | some (v, _), some (v1, _), some (v2, _) => v.beq v1 && v.beq v2
      | _, _, _ => false
    else true
  | _, _, _ => false
def runDraw (C : CallF) : DrawF := fun l ck r m =>
  match states C l r m with
  | some st => if ck.all (fun x => match l[x.1]? with | some o => sameRead o st x.1 x.2 | none => false) then st.getLast? else none
  | none => none
def gTm : Option (Nat × Bool) → List Nat
  | some (t, _) => [t]
  | none => []
def VOper.slots (o : VOper) : List Nat := o.o.uses ++ gTm o.g
def VOper.meets (a b : VOper) : Bool :=
  (match a.d with
   | some t => b.slots.contains t || b.d == some t
   | none => false) ||
  (match b.d with
   | some t => a.slots.contains t
   | none => false)
def hoistO (o : Oper) : Bool :=
  match o.op, o.guard with
  | .alloc _, none => true
  | _, _ => false
def orderOf (ops : Array Oper) : List Nat :=
  (List.range ops.size).filter (fun i => hoistO (ops.getD i default)) ++ (List.range ops.size).filter (fun i => !hoistO (ops.getD i default))
def drawChecks (ops : Array Oper) (vos : List VOper) (B : Array Nat) : Bool :=
  let n := ops.size
  let co := orderOf ops
  (List.range n).all (fun i => (List.range n).all fun j => !(B.getD i 0).testBit j ||
    ((ops.getD i default).after.toList.any fun e => Region.binds .any e && (e.on == j || (B.getD e.on 0).testBit j))) &&
  (List.range n).all (fun i => (ops.getD i default).after.toList.all fun e => !Region.binds .any e || e.on < i) &&
  (List.range n).all (fun i => (List.range n).all fun j => !(B.getD i 0).testBit j || j < i) &&
  (List.range n).all (fun q => (List.range q).all fun p =>
    let i := co.getD p 0
    let j := co.getD q 0
    let a := vos.getD i default
    let b := vos.getD j default
    (!a.meets b || (B.getD j 0).testBit i) && (!(a.o.eff && b.o.eff && !hoistO (ops.getD i default)) || (B.getD j 0).testBit i))
def drawPairs (ops : Array Oper) (vos : List VOper) (B : Array Nat) : List (Nat × Nat) :=
  let co := orderOf ops
  (List.range ops.size).flatMap fun p => (List.range ops.size).filterMap fun q =>
    let i := co.getD p 0
    let j := co.getD q 0
    if (vos.getD i default).o.rd && (vos.getD j default).o.eff && !hoistO (ops.getD j default) && !(B.getD i 0).testBit j && !(B.getD j 0).testBit i then some (p, q) else none
def compDraw (P : Program) (G : Nat) (ops : Array Oper) : Option (List VOper × List (Nat × Nat)) :=
  match compOps P G ops ops.toList with
  | some vos => if drawChecks ops vos (Region.before ops) then some ((orderOf ops).map (fun i => vos.getD i default), drawPairs ops vos (Region.before ops)) else none
  | none => none
section
variable {E : Env} {P : Program} {C : CallF}
theorem compOps_get {G : Nat} {ops : Array Oper} : ∀ {l : List Oper} {vl : List VOper}, compOps P G ops l = some vl → vl.length = l.length ∧ ∀ i o, l[i]? = some o → compOper P G ops o = some (vl.getD i default)
  | [], vl, h => by simp only [compOps, Option.some.injEq] at h; subst h; simp
  | x :: l, vl, h => by
    simp only [compOps] at h
    split at h
    · rename_i y k hy hk
      simp only [Option.some.injEq] at h; subst h
      obtain ⟨h1, h2⟩ := compOps_get hk
      refine ⟨by simp [h1], fun i o hi => ?_⟩
      cases i with
      | zero => simp at hi; subst hi; simpa using hy
      | succ i => simpa using h2 i o (by simpa using hi)
    · simp at h
theorem states_spec : ∀ {l : List VOper} {r : List AV} {m : AMem} {st : List (List AV × AMem)}, states C l r m = some st → st.length = l.length + 1 ∧ st[0]? = some (r, m) ∧ ∀ p o, l[p]? = some o → ∃ x y, st[p]? = some x ∧ st[p + 1]? = some y ∧ stepO C o x.1 x.2 = some y
  | [], r, m, st, h => by simp only [states, Option.some.injEq] at h; subst h; simp
  | o :: l, r, m, st, h => by
    simp only [states] at h
    split at h
    · rename_i r' m' hs
      obtain ⟨s, hs2, rfl⟩ := Option.map_eq_some_iff.1 h
      obtain ⟨h1, h2, h3⟩ := states_spec hs2
      refine ⟨by simp [h1], rfl, fun p q hp => ?_⟩
      cases p with
      | zero =>
        simp at hp; subst hp
        exact ⟨(r, m), (r', m'), rfl, by simpa using h2, hs⟩
      | succ p =>
        obtain ⟨x, y, g1, g2, g3⟩ := h3 p q (by simpa using hp)
        exact ⟨x, y, by simpa using g1, by simpa using g2, g3⟩
    · simp at h
theorem getD_setR (r : List AV) (d : Option Nat) (v : AV) (t : Nat) : (setR r d v)[t]? = if d = some t then (r[t]?).map fun _ => v else r[t]? := by
  cases d with
  | none => simp [setR]
  | some d =>
    simp only [setR, List.getElem?_set, Option.some.injEq]
    by_cases h : d = t
    · subst h
      rw [if_pos rfl, if_pos rfl]
      split
      · rename_i hl; rw [List.getElem?_eq_getElem hl]; rfl
      · rename_i hl; rw [List.getElem?_eq_none (by omega)]; rfl
    · rw [if_neg h, if_neg h]
def selR (r : List AV) (d : Nat → Option Nat) (V : Nat → AV) (s : Nat → Bool) : Nat → List AV
  | 0 => r
  | k + 1 => if s k then setR (selR r d V s k) (d k) (V k) else selR r d V s k
theorem selR_congr {r : List AV} {d : Nat → Option Nat} {V : Nat → AV} {s1 s2 : Nat → Bool} {t : Nat} : ∀ k, (∀ q, q < k → d q = some t → s1 q = s2 q) → (selR r d V s1 k)[t]? = (selR r d V s2 k)[t]?
  | 0, _ => rfl
  | k + 1, h => by
    have ih := selR_congr (r := r) (V := V) k fun q hq => h q (by omega)
    have key : ∀ s, (selR r d V s (k + 1))[t]? = if s k = true ∧ d k = some t then ((selR r d V s k)[t]?).map fun _ => V k else (selR r d V s k)[t]? := by
      intro s
      simp only [selR]
      split
      · rename_i hs; rw [getD_setR]; simp [hs]
      · rename_i hs; simp [hs]
    rw [key, key, ih]
    by_cases hd : d k = some t
    · rw [h k (Nat.lt_succ_self k) hd]
    · simp [hd]
theorem selR_insert {r : List AV} {d : Nat → Option Nat} {V : Nat → AV} {s s' : Nat → Bool} {p K : Nat} (hs : ∀ q, q < K → s' q = (s q || q == p)) (hp : s p = false) (t : Nat) : ∀ k, k ≤ K → p < k → (∀ q, p < q → q < k → d q = some t → d p = some t → s q = false) →
    (selR r d V s' k)[t]? = (setR (selR r d V s k) (d p) (V p))[t]?
  | 0, _, h, _ => by omega
  | k + 1, hK, h, hq => by
    have key : ∀ s, (selR r d V s (k + 1))[t]? = if s k = true ∧ d k = some t then ((selR r d V s k)[t]?).map fun _ => V k else (selR r d V s k)[t]? := by
      intro s
      simp only [selR]
      split
      · rename_i hs; rw [getD_setR]; simp [hs]
      · rename_i hs; simp [hs]
    by_cases hk : k = p
    · subst hk
      have e1 : (selR r d V s' k)[t]? = (selR r d V s k)[t]? := selR_congr k fun q hq' _ => by
        rw [hs q (by omega)]; have : (q == k) = false := by simp; omega
        simp [this]
      rw [key, getD_setR, key, e1]
      have : s' k = true := by rw [hs k (by omega)]; simp
      simp [this, hp]
    · have ih := selR_insert (V := V) (r := r) hs hp t k (by omega) (by omega) fun q h1 h2 => hq q h1 (by omega)
      have e1 : s' k = s k := by rw [hs k (by omega)]; have : (k == p) = false := by simp; exact hk
                                 simp [this]
      rw [key, e1, ih, getD_setR, getD_setR, key]
      by_cases hsk : s k = true ∧ d k = some t
      · have hdp : d p ≠ some t := fun hdp => by
          have := hq k (by omega) (Nat.lt_succ_self k) hsk.2 hdp
          rw [hsk.1] at this; simp at this
        simp [hsk, hdp]
      · simp [hsk]
theorem Rep.realize {ρ : Rho} {m : AMem} {w w' : World} (h : Rep E ρ m w) {j : Nat} (hj : j < m.next) (hn : ρ j = none) (o : AObj) (hget : m.get j = some o) (t : Tgt) (O : Obj) (hh : w'.heap = w.heap.push O) (ho : w'.os = w.os) (hta : w'.tape = w.tape) (hou : w'.output = w.output) (ht : t.blk = w.heap.size) (hobj : ObjAt E (ρ.put j t) w' t o) :
    Rep E (ρ.put j t) m w' := by
  have hle : ρ.le (ρ.put j t) := Rho.le_put hn
  have hold : ∀ k, k < w.heap.size → w'.heap[k]? = w.heap[k]? := fun k hk => by rw [hh, Array.getElem?_push, if_neg (by omega)]
  have hsz : w'.heap.size = w.heap.size + 1 := by rw [hh]; simp
  have hnew : ∀ i u, (ρ.put j t) i = some u → (i = j ∧ u = t) ∨ (i ≠ j ∧ ρ i = some u) := fun i u hi => by
    unfold Rho.put at hi; split at hi
    · simp at hi; exact .inl ⟨by omega, hi.symm⟩
    · exact .inr ⟨by omega, hi⟩
  refine ⟨by have := h.base; omega, ⟨ho.trans h.below.os, hta.trans h.below.tape, hou.trans h.below.output, by have := h.below.size; omega, fun k hk => (hold k (by have := h.base; omega)).trans (h.below.block k hk)⟩, fun g hg => hle _ _ (h.glob g hg), h.next, fun i hi => ?_, fun i o' u hi hr => ?_, fun i k o1 o2 t1 t2 hik h1 h2 w1 w2 r1 r2 => ?_⟩
  · obtain ⟨a, b⟩ := h.fresh i hi
    exact ⟨by unfold Rho.put; rw [if_neg (by omega)]; exact a, b⟩
  · rcases hnew i u hr with ⟨rfl, rfl⟩ | ⟨_, hr'⟩
    · rw [hget] at hi; simp at hi; subst hi; exact hobj
    · have := h.objs i o' u hi hr'
      exact (this.mono hle).congr (hold _ this.lt)
  · rcases hnew i t1 r1 with ⟨rfl, rfl⟩ | ⟨_, r1'⟩
    · rcases hnew k t2 r2 with ⟨rfl, rfl⟩ | ⟨_, r2'⟩
      · exact absurd rfl hik
      · have := (h.objs k o2 t2 h2 r2').lt; omega
    · rcases hnew k t2 r2 with ⟨rfl, rfl⟩ | ⟨_, r2'⟩
      · have := (h.objs i o1 t1 h1 r1').lt; omega
      · exact h.apart i k o1 o2 t1 t2 hik h1 h2 w1 w2 r1' r2'
theorem Rep.aside {ρ : Rho} {m : AMem} {w : World} (h : Rep E ρ m w) (o : AObj) : Rep E ρ (m.new o) w ∧ Ext ρ m ρ (m.new o) := by
  have hn := (h.fresh m.next (Nat.le_refl _)).1
  have hne : ∀ i t, ρ i = some t → m.next ≠ i := fun i t hi e => by subst e; rw [hn] at hi; simp at hi
  refine ⟨⟨h.base, h.below, h.glob, by have := h.next; simp; omega, fun j hj => ?_, fun j o' t hj hr => ?_, fun i j o1 o2 t1 t2 hij h1 h2 w1 w2 r1 r2 => ?_⟩, Rho.le_refl _, by simp, fun j hj hr => ⟨?_, hr⟩⟩
  · simp at hj
    obtain ⟨a, b⟩ := h.fresh j (by omega)
    exact ⟨a, by rw [AMem.get_new, if_neg (by omega)]; exact b⟩
  · rw [AMem.get_new, if_neg (hne _ _ hr)] at hj
    exact h.objs j o' t hj hr
  · rw [AMem.get_new, if_neg (hne _ _ r1)] at h1
    rw [AMem.get_new, if_neg (hne _ _ r2)] at h2
    exact h.apart i j o1 o2 t1 t2 hij h1 h2 w1 w2 r1 r2
  · rw [AMem.get_new, if_neg (by omega)]
end
end Go.Vi
