/- Where a law's call begins: the abstract memory that stands for its arguments and for the package-level variables that are told; and what the interpreter's answer gives the call. No condition. -/
import Derived.Test.YtfbglgmhhmeoeaaGreatDoorWbViW
namespace Go.Vi
open Go.RowKit
set_option linter.unusedSimpArgs false
set_option linter.unusedVariables false
def mkM (n : Nat) : List (Nat × AObj) → AMem
  | [] => { next := n, t := .nil }
  | (j, o) :: l => (mkM n l).put j (some o)
@[simp] theorem mkM_next (n : Nat) : ∀ l, (mkM n l).next = n
  | [] => rfl
  | (j, o) :: l => by simp only [mkM, AMem.next_put, mkM_next n l]
theorem mkM_get {n : Nat} : ∀ {l : List (Nat × AObj)} {j : Nat} {o : AObj}, (mkM n l).get j = some o → (j, o) ∈ l
  | [], j, o, h => by
    simp only [mkM, AMem.get] at h
    generalize path j j = p at h
    cases p <;> simp [Trie.getP] at h
  | (i, q) :: l, j, o, h => by
    simp only [mkM, AMem.get_put] at h
    split at h
    · rename_i hij
      simp only [Option.some.injEq] at h
      subst hij; subst h; simp
    · exact List.mem_cons_of_mem _ (mkM_get h)
def rho0 (G : Nat) (tg : Nat → Option Tgt) : Rho := fun j => if j < G then some ⟨j, 0, 0⟩ else tg j
def envOf (P : Program) (G : Nat) (W : World) : Env := ⟨W.heap.size, W, G, fun c vc => compC P G (compDraw P G) c = some vc⟩
theorem rep_start (P : Program) (W : World) (G n : Nat) (hG : G ≤ n) (tg : Nat → Option Tgt) (htg : ∀ j, n ≤ j → tg j = none) (l : List (Nat × AObj))
    (hl : ∀ q ∈ l, q.1 < n ∧ q.2.wr = false ∧ ∀ t, rho0 G tg q.1 = some t → ObjAt (envOf P G W) (rho0 G tg) W t q.2) : Rep (envOf P G W) (rho0 G tg) (mkM n l) W := by
  refine ⟨Nat.le_refl _, Below.refl _ _, fun g hg => ?_, by simpa [envOf] using hG, fun j hj => ⟨?_, ?_⟩, fun j o t hj ht => ?_, fun i j o o' t t' hij h1 h2 w1 w2 => ?_⟩
  · simp only [rho0]; rw [if_pos (show g < G from hg)]
  · simp only [mkM_next] at hj
    simp only [rho0]; rw [if_neg (by omega)]; exact htg j hj
  · simp only [mkM_next] at hj
    cases hg : (mkM n l).get j with
    | none => rfl
    | some o => have := (hl _ (mkM_get hg)).1; simp only at this; omega
  · exact (hl _ (mkM_get hj)).2.2 t ht
  · have := (hl _ (mkM_get h1)).2.1
    simp only at this; rw [this] at w1; simp at w1
theorem law_calls {P : Program} {ext : Nat → VFn} {T : Nat → VFn} {G : Nat} {W : World} {ρ : Rho} {m0 : AMem} {f : Nat} {args : List AV} {args' : Array Value} {nt : Nat} {res : List VRes} {body : VC}
    (hx : ExtOk (envOf P G W) P ext) (hxg : ∀ f nt res b, ext f ≠ .go nt res b) (hxs : ∀ f g, ext f ≠ .sum g) (hT : ∀ f, T f = .none ∨ T f = fnOf P G ext f ∨ ∃ g, T f = .sum g ∧ SumOk (envOf P G W) P f g) (hm : P.follows .mixedOrders = true)
    (hR : Rep (envOf P G W) ρ m0 W) (ha : VRL ρ args args'.toList) (hf : T f = .go nt res body) (h : Call T f args m0 fun v _ => v = .b true) :
    Calls P f args' W fun e W' => e = .returned (.bool true) ∧ Below W.heap.size W W' := by
  obtain ⟨v, m', ⟨n, hn⟩, rfl⟩ := h
  refine (calls_of_ev (E := envOf P G W) (fun _ _ => Iff.rfl) (progOk hx hxg hxs hT) hm hn hf ha hR).mono fun e w' ⟨v', ρ', he, hv, hr, _⟩ => ?_
  have := hv.bool
  subst this
  exact ⟨he, hr.below⟩
theorem ObjAt.below {E : Env} {ρ : Rho} {w w' : World} {t : Tgt} {o : AObj} (h : ObjAt E ρ w t o) (hb : Below w.heap.size w w') : ObjAt E ρ w' t o := by
  have key : ∀ x, w.heap[t.blk]? = some x → w'.heap[t.blk]? = some x := fun x hx => by
    rw [hb.block _ (Array.getElem?_eq_some_iff.1 hx).1]; exact hx
  cases o with
  | cells c wr es =>
    obtain ⟨h1, arr, e, fz, h2, h3⟩ := h
    exact ⟨h1, arr, e, fz, key _ h2, h3⟩
  | map es =>
    obtain ⟨h1, ents, clock, h2, h3⟩ := h
    exact ⟨h1, ents, clock, key _ h2, h3⟩
  | loop st pend r ps asg body =>
    obtain ⟨h1, L, h2, h3⟩ := h
    exact ⟨h1, L, key _ h2, h3⟩
  | dfr => exact ⟨h.1, key _ h.2⟩
  | sit s pos => exact ⟨h.1, h.2.1, key _ h.2.2⟩
theorem Rep.below' {E : Env} {ρ : Rho} {m : AMem} {w w' : World} (h : Rep E ρ m w) (hb : Below w.heap.size w w') : Rep E ρ m w' :=
  ⟨Nat.le_trans h.base hb.size, h.below.trans (hb.mono h.base), h.glob, h.next, h.fresh, fun j o t h1 h2 => (h.objs j o t h1 h2).below hb, h.apart⟩
theorem sum_of_run {P : Program} {ext : Nat → VFn} {T0 : Nat → VFn} {G : Nat} {W : World} {f n nt : Nat} {res : List VRes} {body : VC} {b : Bool} {m0' : AMem}
    (hx : ∀ w, ExtOk (envOf P G w) P ext) (hxg : ∀ f nt res b, ext f ≠ .go nt res b) (hxs : ∀ f g, ext f ≠ .sum g) (hT : ∀ f, T0 f = .none ∨ T0 f = fnOf P G ext f) (hm : P.follows .mixedOrders = true)
    (hf : T0 f = .go nt res body) (h : ev T0 n (.f f) [] { next := G, t := .nil } = some (.b b, m0')) :
    SumOk (envOf P G W) P f fun args m => match args with | [] => some (.b b, m) | _ => none := by
  intro args m v m' hg ρ w args' ha hR
  have hnil : args = [] := by
    cases args with
    | nil => rfl
    | cons _ _ => simp at hg
  subst hnil
  simp only [Option.some.injEq, Prod.mk.injEq] at hg
  obtain ⟨rfl, rfl⟩ := hg
  obtain rfl : args' = #[] := by
    simp only [VRL] at ha
    cases args'; simp_all
  have hP := progOk (E := envOf P G w) (hx w) hxg hxs (T := T0) fun f => (hT f).imp id .inl
  have hpf := hP f
  rw [hf] at hpf
  obtain ⟨fn, c, h1, h2, h3, _⟩ := hpf
  refine ⟨by simp [callFunc, h1, h2, h3], ?_⟩
  have hR0 : Rep (envOf P G w) (rho0 G fun _ => none) { next := G, t := .nil } w := rep_start P w G G (Nat.le_refl _) (fun _ => none) (fun _ _ => rfl) [] (by simp)
  refine (calls_of_ev (E := envOf P G w) (fun _ _ => Iff.rfl) hP hm h hf (by simp [VRL]) hR0).mono fun e w' ⟨v', ρ', he, hv, hr, _⟩ => ?_
  subst he
  exact ⟨ρ, by simp only [VR] at hv ⊢; exact hv, hR.below' hr.below, Ext.refl _ _⟩
end Go.Vi
