/- Regions that draw their order: run in one order, with a look whether any other could tell. No condition. -/
import Derived.Test.YtjlckbphpmogjaaGreatDoorSfViCode
namespace Go.Vi
open Go.RowKit
set_option linter.unusedSimpArgs false
set_option linter.unusedVariables false

def X.tm : X → List Nat
  | .t n => [n]
  | .c _ => []

def oTm : Option X → List Nat
  | some x => x.tm
  | none => []

def VO.uses : VO → List Nat
  | .mv x | .box _ x | .ld x | .ldn _ x | .nc x | .un _ x | .cvi _ x | .cvs x | .sbs x | .fa _ x | .fl _ _ x | .ext x _ | .len _ x | .cap x | .clr _ x | .mif _ x | .tas _ _ x | .cvm x | .pcv x | .pcu _ _ x | .usd x | .i2s x => x.tm
  | .pick a b c | .mup _ a b c => a.tm ++ b.tm ++ c.tm
  | .st _ a b | .bin _ a b | .eqb _ a b | .eqn _ _ a b | .eqa _ _ a b | .eqp _ a b | .ia _ a b | .iaA _ _ a b | .ixs a b | .ixA _ _ _ a b | .app _ _ a b | .cpy _ a b | .mks _ _ _ a b | .lkp _ _ _ a b | .ustr _ a b => a.tm ++ b.tm
  | .alloc .. | .lenA _ | .mkm | .bad => []
  | .build _ ps | .bsl _ _ _ ps => ps.flatMap fun q => q.2.2.tm
  | .fn f a b => f.tm ++ a.flatMap X.tm ++ b.flatMap X.tm
  | .fnc _ a b => a.flatMap X.tm ++ b.flatMap X.tm
  | .slc _ x lo hi hm => x.tm ++ oTm lo ++ oTm hi ++ oTm hm
  | .sls x lo hi | .sla _ _ x lo hi => x.tm ++ oTm lo ++ oTm hi
  | .mn xs | .mx xs | .call _ xs => xs.flatMap X.tm
  | .cv f xs => f.tm ++ xs.flatMap X.tm

def VO.eff : VO → Bool
  | .alloc .. | .box .. | .bsl .. | .st .. | .sbs _ | .mks .. | .app .. | .cpy .. | .clr .. | .mkm | .mup .. | .call .. | .cv .. | .cvs _ | .lkp .. | .cvm _ | .pcv _ | .pcu .. | .ustr .. => true
  | .len k _ => k == 2
  | _ => false

def VO.rd : VO → Bool
  | .ld _ | .ldn .. => true
  | _ => false

section
variable {C : CallF} {r r2 : List AV} {m m' m2 : AMem} {v : AV}

theorem ev_congr {x : X} (h : ∀ t ∈ x.tm, r.getD t un = r2.getD t un) : x.ev r = x.ev r2 := by
  cases x with
  | t n => exact h n (by simp [X.tm])
  | c v => rfl

theorem evs_congr {l : List X} (h : ∀ t ∈ l.flatMap X.tm, r.getD t un = r2.getD t un) : l.map (X.ev r) = l.map (X.ev r2) := by
  refine List.map_congr_left fun x hx => ev_congr fun t ht => h t (List.mem_flatMap.2 ⟨x, hx, ht⟩)

theorem fillE_congr : ∀ {ps : List (Nat × Nat × X)} {c : List AV}, (∀ t ∈ ps.flatMap fun q => q.2.2.tm, r.getD t un = r2.getD t un) → fillE r ps c = fillE r2 ps c
  | [], c, _ => rfl
  | (o, n, x) :: ps, c, h => by
    have h1 : x.ev r = x.ev r2 := ev_congr fun t ht => h t (by simp [ht])
    simp only [fillE, h1]
    split
    · exact fillE_congr fun t ht => h t (by simp at ht ⊢; exact .inr ht)
    · rfl

theorem bounds_congr {lo hi hm : Option X} {len cap : Nat} (h1 : ∀ t ∈ oTm lo, r.getD t un = r2.getD t un) (h2 : ∀ t ∈ oTm hi, r.getD t un = r2.getD t un) (h3 : ∀ t ∈ oTm hm, r.getD t un = r2.getD t un) : boundsE r len cap lo hi hm = boundsE r2 len cap lo hi hm := by
  have hx : ∀ {o : Option X}, (∀ t ∈ oTm o, r.getD t un = r2.getD t un) → ∀ x, o = some x → x.ev r = x.ev r2 := by
    intro o ho x e
    subst e
    exact ev_congr ho
  cases lo <;> cases hi <;> cases hm <;> simp only [boundsE] <;> (try rw [hx h1 _ rfl]) <;> (try rw [hx h2 _ rfl]) <;> (try rw [hx h3 _ rfl])

theorem exec_congr {o : VO} (h : ∀ t ∈ o.uses, r.getD t un = r2.getD t un) : exec o r m = exec o r2 m := by
  cases o <;> simp only [VO.uses, List.mem_append] at h
  case mv x => simp only [exec, ev_congr h]
  case pick a b c => simp only [exec, ev_congr (x := a) fun t ht => h t (.inl (.inl ht)), ev_congr (x := b) fun t ht => h t (.inl (.inr ht)), ev_congr (x := c) fun t ht => h t (.inr ht)]
  case alloc ty z => rfl
  case box n x => simp only [exec, ev_congr h]
  case build z ps => simp only [exec, fillE_congr h]
  case bsl n l z ps => simp only [exec, fillE_congr h]
  case ld x => simp only [exec, ev_congr h]
  case ldn n x => simp only [exec, ev_congr h]
  case st n a b => simp only [exec, ev_congr (x := a) fun t ht => h t (.inl ht), ev_congr (x := b) fun t ht => h t (.inr ht)]
  case nc x => simp only [exec, ev_congr h]
  case bin op a b => simp only [exec, ev_congr (x := a) fun t ht => h t (.inl ht), ev_congr (x := b) fun t ht => h t (.inr ht)]
  case eqb op a b => simp only [exec, ev_congr (x := a) fun t ht => h t (.inl ht), ev_congr (x := b) fun t ht => h t (.inr ht)]
  case eqn k op a b => simp only [exec, ev_congr (x := a) fun t ht => h t (.inl ht), ev_congr (x := b) fun t ht => h t (.inr ht)]
  case eqa op n a b => simp only [exec, ev_congr (x := a) fun t ht => h t (.inl ht), ev_congr (x := b) fun t ht => h t (.inr ht)]
  case eqp n a b => simp only [exec, ev_congr (x := a) fun t ht => h t (.inl ht), ev_congr (x := b) fun t ht => h t (.inr ht)]
  case un op x => simp only [exec, ev_congr h]
  case cvi k x => simp only [exec, ev_congr h]
  case cvs x => simp only [exec, ev_congr h]
  case sbs x => simp only [exec, ev_congr h]
  case fn f a b => simp only [exec, ev_congr (x := f) fun t ht => h t (.inl (.inl ht)), evs_congr (l := a) fun t ht => h t (.inl (.inr ht)), evs_congr (l := b) fun t ht => h t (.inr ht)]
  case fnc f a b => simp only [exec, evs_congr (l := a) fun t ht => h t (.inl ht), evs_congr (l := b) fun t ht => h t (.inr ht)]
  case mks n b z x y => simp only [exec, ev_congr (x := x) fun t ht => h t (.inl ht), ev_congr (x := y) fun t ht => h t (.inr ht)]
  case slc n x lo hi mx =>
    have h4 := fun l c => bounds_congr (len := l) (cap := c) (lo := lo) (hi := hi) (hm := mx) (r := r) (r2 := r2) (fun t ht => h t (.inl (.inl (.inr ht)))) (fun t ht => h t (.inl (.inr ht))) (fun t ht => h t (.inr ht))
    simp only [exec, ev_congr (x := x) fun t ht => h t (.inl (.inl (.inl ht))), h4]
  case sls x lo hi =>
    have h4 := fun l c => bounds_congr (len := l) (cap := c) (lo := lo) (hi := hi) (hm := none) (r := r) (r2 := r2) (fun t ht => h t (.inl (.inr ht))) (fun t ht => h t (.inr ht)) (fun t ht => by simp [oTm] at ht)
    simp only [exec, ev_congr (x := x) fun t ht => h t (.inl (.inl ht)), h4]
  case sla n e x lo hi =>
    have h4 := fun l c => bounds_congr (len := l) (cap := c) (lo := lo) (hi := hi) (hm := none) (r := r) (r2 := r2) (fun t ht => h t (.inl (.inr ht))) (fun t ht => h t (.inr ht)) (fun t ht => by simp [oTm] at ht)
    simp only [exec, ev_congr (x := x) fun t ht => h t (.inl (.inl ht)), h4]
  case fa n x => simp only [exec, ev_congr h]
  case fl n k x => simp only [exec, ev_congr h]
  case ia n a b => simp only [exec, ev_congr (x := a) fun t ht => h t (.inl ht), ev_congr (x := b) fun t ht => h t (.inr ht)]
  case iaA l n a b => simp only [exec, ev_congr (x := a) fun t ht => h t (.inl ht), ev_congr (x := b) fun t ht => h t (.inr ht)]
  case ixs a b => simp only [exec, ev_congr (x := a) fun t ht => h t (.inl ht), ev_congr (x := b) fun t ht => h t (.inr ht)]
  case ixA l n k a b => simp only [exec, ev_congr (x := a) fun t ht => h t (.inl ht), ev_congr (x := b) fun t ht => h t (.inr ht)]
  case ext x k => simp only [exec, ev_congr h]
  case len k x => simp only [exec, ev_congr h]
  case lenA n => rfl
  case cap x => simp only [exec, ev_congr h]
  case app n k a b => simp only [exec, ev_congr (x := a) fun t ht => h t (.inl ht), ev_congr (x := b) fun t ht => h t (.inr ht)]
  case cpy n a b => simp only [exec, ev_congr (x := a) fun t ht => h t (.inl ht), ev_congr (x := b) fun t ht => h t (.inr ht)]
  case clr z x => simp only [exec, ev_congr h]
  case mn xs => simp only [exec, evs_congr h]
  case mx xs => simp only [exec, evs_congr h]
  case mkm => rfl
  case lkp sk z k a b => simp only [exec, ev_congr (x := a) fun t ht => h t (.inl ht), ev_congr (x := b) fun t ht => h t (.inr ht)]
  case cvm x => simp only [exec, ev_congr h]
  case mup sk a b c => simp only [exec, ev_congr (x := a) fun t ht => h t (.inl (.inl ht)), ev_congr (x := b) fun t ht => h t (.inl (.inr ht)), ev_congr (x := c) fun t ht => h t (.inr ht)]
  case mif k x => simp only [exec, ev_congr h]
  case tas k z x => simp only [exec, ev_congr h]
  case pcv x => simp only [exec, ev_congr h]
  case pcu k n x => simp only [exec, ev_congr h]
  case usd x => simp only [exec, ev_congr h]
  case i2s x => simp only [exec, ev_congr h]
  case ustr n a b => simp only [exec, ev_congr (x := a) fun t ht => h t (.inl ht), ev_congr (x := b) fun t ht => h t (.inr ht)]
  case bad => rfl
  case call f xs => rfl
  case cv f xs => rfl

theorem execC_congr {o : VO} (h : ∀ t ∈ o.uses, r.getD t un = r2.getD t un) : execC C o r m = execC C o r2 m := by
  by_cases hc : o.isCall = true
  · cases o <;> simp [VO.isCall] at hc
    case call f xs => simp only [VO.uses] at h; simp only [execC, evs_congr h]
    case cv f xs =>
      simp only [VO.uses, List.mem_append] at h
      simp only [execC, ev_congr (x := f) fun t ht => h t (.inl ht), evs_congr (l := xs) fun t ht => h t (.inr ht)]
  · rw [execC_plain (by simpa using hc), execC_plain (by simpa using hc)]
    exact exec_congr h

theorem exec_still {o : VO} (h : o.eff = false) (he : exec o r m = some (v, m')) : m' = m ∧ (o.rd = false → ∀ m2, exec o r m2 = some (v, m2)) := by
  cases o <;> simp [VO.eff] at h <;> simp only [exec, VO.rd] at he ⊢
  case mv x => simp at he ⊢; obtain ⟨rfl, rfl⟩ := he; simp
  case pick a b c => split at he <;> simp at he; obtain ⟨rfl, rfl⟩ := he; simp
  case build z ps => obtain ⟨u, hu, he⟩ := Option.map_eq_some_iff.1 he; simp at he; obtain ⟨rfl, rfl⟩ := he; simp [hu]
  case ld x =>
    refine ⟨?_, fun h => by simp at h⟩
    split at he <;> try (simp at he; done)
    split at he <;> try (simp at he; done)
    obtain ⟨u, hu, he⟩ := Option.map_eq_some_iff.1 he; simp at he; exact he.2.symm
  case ldn n x =>
    refine ⟨?_, fun h => by simp at h⟩
    split at he <;> try (simp at he; done)
    obtain ⟨u, hu, he⟩ := Option.map_eq_some_iff.1 he; simp at he; exact he.2.symm
  case nc x => split at he <;> simp at he <;> (obtain ⟨rfl, rfl⟩ := he; simp)
  case bin op a b => obtain ⟨u, hu, he⟩ := Option.map_eq_some_iff.1 he; simp at he; obtain ⟨rfl, rfl⟩ := he; simp [hu]
  case eqb op a b => split at he <;> simp at he; obtain ⟨rfl, rfl⟩ := he; simp
  case eqn k op a b =>
    split at he
    · split at he
      · rename_i hh; simp only [Option.some.injEq, Prod.mk.injEq] at he; obtain ⟨rfl, rfl⟩ := he; simp [hh]
      · simp at he
    · simp at he
  case eqa op n a b =>
    split at he
    · obtain ⟨u, hu, he⟩ := Option.map_eq_some_iff.1 he; simp only [Prod.mk.injEq] at he; obtain ⟨rfl, rfl⟩ := he; simp [hu]
    · simp at he
  case eqp n a b =>
    split at he
    · split at he
      · rename_i hh; simp only [Option.some.injEq, Prod.mk.injEq] at he; obtain ⟨rfl, rfl⟩ := he; simp [hh]
      · simp at he
    · simp at he
  case un op x => obtain ⟨u, hu, he⟩ := Option.map_eq_some_iff.1 he; simp at he; obtain ⟨rfl, rfl⟩ := he; simp [hu]
  case cvi k x => split at he <;> simp at he; obtain ⟨rfl, rfl⟩ := he; simp
  case fn f a b => split at he <;> simp at he; obtain ⟨rfl, rfl⟩ := he; simp
  case fnc f a b => simp at he ⊢; obtain ⟨rfl, rfl⟩ := he; simp
  case slc n x lo hi mx =>
    split at he
    · split at he
      · split at he
        · simp only [Option.some.injEq, Prod.mk.injEq] at he; obtain ⟨rfl, rfl⟩ := he; simp
        · split at he
          · rename_i hh; simp only [Option.some.injEq, Prod.mk.injEq] at he; obtain ⟨rfl, rfl⟩ := he; simp [hh]
          · rename_i hh; split at he
            · rename_i h2; simp only [Option.some.injEq, Prod.mk.injEq] at he; obtain ⟨rfl, rfl⟩ := he; simp [hh, h2]
            · rename_i h2; split at he
              · rename_i h3; simp only [Option.some.injEq, Prod.mk.injEq] at he; obtain ⟨rfl, rfl⟩ := he; simp [hh, h2, h3]
              · rename_i h3; split at he
                · rename_i h4; simp only [Option.some.injEq, Prod.mk.injEq] at he; obtain ⟨rfl, rfl⟩ := he; simp [hh, h2, h3, h4]
                · simp at he
      · simp at he
    · simp at he
  case sls x lo hi =>
    split at he
    · split at he
      · simp only [Option.some.injEq, Prod.mk.injEq] at he; obtain ⟨rfl, rfl⟩ := he; simp
      · simp at he
    · simp at he
  case sla n e x lo hi =>
    split at he
    · split at he
      · simp only [Option.some.injEq, Prod.mk.injEq] at he; obtain ⟨rfl, rfl⟩ := he; simp
      · simp at he
    · simp at he
  case fa n x => split at he <;> simp at he; obtain ⟨rfl, rfl⟩ := he; simp
  case fl n k x =>
    split at he
    · split at he
      · simp only [Option.some.injEq, Prod.mk.injEq] at he; obtain ⟨rfl, rfl⟩ := he; simp
      · obtain ⟨u, hu, he⟩ := Option.map_eq_some_iff.1 he; simp only [Prod.mk.injEq] at he; obtain ⟨rfl, rfl⟩ := he; simp [hu]
    · simp at he
  case ia n a b =>
    split at he
    · split at he
      · rename_i hh; simp only [Option.some.injEq, Prod.mk.injEq] at he; obtain ⟨rfl, rfl⟩ := he; simp [hh]
      · simp at he
    · simp at he
  case iaA l n a b =>
    split at he
    · split at he
      · rename_i hh; simp only [Option.some.injEq, Prod.mk.injEq] at he; obtain ⟨rfl, rfl⟩ := he; simp [hh]
      · simp at he
    · simp at he
  case ixs a b =>
    split at he
    · split at he
      · rename_i hh; obtain ⟨u, hu, he⟩ := Option.map_eq_some_iff.1 he; simp only [Prod.mk.injEq] at he; obtain ⟨rfl, rfl⟩ := he; simp [hu, hh]
      · simp at he
    · simp at he
  case ixA l n k a b =>
    split at he
    · split at he
      · rename_i hh; split at he
        · simp only [Option.some.injEq, Prod.mk.injEq] at he; obtain ⟨rfl, rfl⟩ := he; simp [hh]
        · obtain ⟨u, hu, he⟩ := Option.map_eq_some_iff.1 he; simp only [Prod.mk.injEq] at he; obtain ⟨rfl, rfl⟩ := he; simp [hu, hh]
      · simp at he
    · simp at he
  case ext x k =>
    split at he
    · obtain ⟨u, hu, he⟩ := Option.map_eq_some_iff.1 he; simp only [Prod.mk.injEq] at he; obtain ⟨rfl, rfl⟩ := he; simp [hu]
    · simp at he
  case len k x =>
    split at he
    · simp at he; obtain ⟨rfl, rfl⟩ := he; simp
    · simp at he; obtain ⟨rfl, rfl⟩ := he; simp
    · simp at he; obtain ⟨rfl, rfl⟩ := he; simp
    · simp at h
    · simp at h
    · simp at he
  case lenA n => simp at he ⊢; obtain ⟨rfl, rfl⟩ := he; simp
  case cap x => split at he <;> simp at he <;> (obtain ⟨rfl, rfl⟩ := he; simp)
  case mn xs =>
    split at he
    · obtain ⟨u, hu, he⟩ := Option.map_eq_some_iff.1 he; simp only [Prod.mk.injEq] at he; obtain ⟨rfl, rfl⟩ := he; simp [hu]
    · simp at he
  case mx xs =>
    split at he
    · obtain ⟨u, hu, he⟩ := Option.map_eq_some_iff.1 he; simp only [Prod.mk.injEq] at he; obtain ⟨rfl, rfl⟩ := he; simp [hu]
    · simp at he
  case mif k x => simp at he ⊢; obtain ⟨rfl, rfl⟩ := he; simp
  case tas k z x =>
    split at he
    · split at he
      · rename_i hk; simp only [Option.some.injEq, Prod.mk.injEq] at he; obtain ⟨rfl, rfl⟩ := he; simp [hk]
      · rename_i hk; simp only [Option.some.injEq, Prod.mk.injEq] at he; obtain ⟨rfl, rfl⟩ := he; simp [hk]
    · simp only [Option.some.injEq, Prod.mk.injEq] at he; obtain ⟨rfl, rfl⟩ := he; simp
    · simp at he
  case usd x =>
    split at he
    · simp only [Option.some.injEq, Prod.mk.injEq] at he; obtain ⟨rfl, rfl⟩ := he; simp
    · split at he
      · simp at he
      · rename_i hh; simp only [Option.some.injEq, Prod.mk.injEq] at he; obtain ⟨rfl, rfl⟩ := he; simp [hh]
    · simp at he
  case i2s x => split at he <;> simp at he; obtain ⟨rfl, rfl⟩ := he; simp
  case bad => simp at he

end
end Go.Vi
