/- A law's argument, a row of pairs of numbers, in a memory whose objects' numbers are known. No condition. -/
import Derived.Test.YtjlckbphpmogjaaGreatDoorSpViGlob
import Derived.Test.YtjlckbphpmogjaaGreatDoorSpViRows
import Derived.Test.YtjlckbphpmogjaaGreatDoorSpViRow2
namespace Go.Vi
open Go.RowKit Go.WideShapes
set_option linter.unusedSimpArgs false
set_option linter.unusedVariables false

def AV.num : AV → Bool
  | .i _ _ => true
  | _ => false

theorem rep_row {P : Program} {W : World} {G : Nat} {m : AMem} {ρ : Rho} (hR : Rep (envOf P G W) ρ m W) {gp : Nat} {arr : Array Value} {ep : TypeId} {fzp : Nat × Nat} {ns : List Int} {kp : IntKind} (hgp : gp < G) (hw : W.heap[gp]? = some (.cells arr ep fzp)) (hns : arr.toList = ns.map (.int kp ·))
    (j : Option Nat) (c c' : List AV) (n : Nat) (hj : ∀ i, j = some i → m.get i = some (.cells c false ⟨1, none⟩)) (hc : c' = c.take n) (hn : c'.all AV.num = true) :
    Rep (envOf P G W) (rho0 G fun i => if i = G then j.bind ρ else none) (mkM (G + 1) [(G, .cells c' false ⟨1, none⟩), (gp, .cells (ns.map (.i kp ·)) false ⟨1, none⟩)]) W := by
  refine rep_start P W G (G + 1) (by omega) _ (fun i hi => if_neg (by omega)) _ fun q hq => ?_
  simp only [List.mem_cons, List.not_mem_nil, or_false] at hq
  rcases hq with rfl | rfl
  · refine ⟨by simp, rfl, fun t ht => ?_⟩
    have ht' : j.bind ρ = some t := by simpa [rho0] using ht
    obtain ⟨i, rfl, hρ⟩ := Option.bind_eq_some_iff.1 ht'
    obtain ⟨hown, arr', e, fz, h1, h2, h3, h4, h5⟩ := hR.objs i _ t (hj i rfl) hρ
    subst hc
    refine ⟨hown, arr', e, fz, h1, ?_, fun k a hk => ?_, h4, h5⟩
    · have : (c.take n).length ≤ c.length := by simp; omega
      omega
    · have hk' : c[k]? = some a := by
        rw [List.getElem?_take] at hk
        split at hk
        · exact hk
        · simp at hk
      have hnum : a.num = true := List.all_eq_true.1 hn a (List.mem_of_getElem? hk)
      obtain ⟨g1, v, g2, g3⟩ := h3 k a hk'
      refine ⟨g1, v, g2, ?_⟩
      cases a <;> simp [AV.num] at hnum
      exact g3
  · refine ⟨by simp only; omega, rfl, fun t ht => ?_⟩
    have ht' : t = ⟨gp, 0, 0⟩ := by
      simp only [rho0, if_pos hgp, Option.some.injEq] at ht
      exact ht.symm
    subst ht'
    have hb := (Array.getElem?_eq_some_iff.1 hw).1
    have hsz : arr.size = ns.length := by
      have := congrArg List.length hns
      simpa using this
    refine cells_start (es := 1) (show gp < W.heap.size from hb) rfl hw (by simp; omega) fun k a hk => ?_
    rw [List.getElem?_map] at hk
    obtain ⟨x, hx, rfl⟩ := Option.map_eq_some_iff.1 hk
    refine ⟨rfl, .int kp x, ?_, by simp [VR]⟩
    have : arr.toList[k]? = some (.int kp x) := by rw [hns, List.getElem?_map, hx]; rfl
    simpa using this

def flat2 (L : List (Int × Int)) : List AV := L.flatMap fun p => [.i .i64 p.1, .i .i64 p.2]

theorem flat2_len : ∀ L, (flat2 L).length = 2 * L.length
  | [] => rfl
  | p :: L => by
    have := flat2_len L
    simp only [flat2] at this
    simp only [flat2, List.flatMap_cons, List.length_append, List.length_cons, List.length_nil, this]; omega

theorem flat2_num (L : List (Int × Int)) : (flat2 L).all AV.num = true := by
  simp only [flat2, List.all_eq_true, List.mem_flatMap]
  rintro a ⟨p, _, ha⟩
  simp only [List.mem_cons, List.not_mem_nil, or_false] at ha
  rcases ha with rfl | rfl <;> rfl

theorem flat2_app (a b : List (Int × Int)) : flat2 (a ++ b) = flat2 a ++ flat2 b := by simp [flat2]

theorem flat2_drop : ∀ (i : Nat) (L : List (Int × Int)), (flat2 L).drop (i * 2) = flat2 (L.drop i)
  | 0, L => by simp
  | i + 1, [] => by simp [flat2]
  | i + 1, p :: L => by
    have e : flat2 (p :: L) = AV.i .i64 p.1 :: AV.i .i64 p.2 :: flat2 L := rfl
    rw [e, show (i + 1) * 2 = i * 2 + 1 + 1 by omega, List.drop_succ_cons, List.drop_succ_cons, flat2_drop i L]
    rfl

theorem flat2_take : ∀ (i : Nat) (L : List (Int × Int)), (flat2 L).take (i * 2) = flat2 (L.take i)
  | 0, L => by simp [flat2]
  | i + 1, [] => by simp [flat2]
  | i + 1, p :: L => by
    have e : flat2 (p :: L) = AV.i .i64 p.1 :: AV.i .i64 p.2 :: flat2 L := rfl
    rw [e, show (i + 1) * 2 = i * 2 + 1 + 1 by omega, List.take_succ_cons, List.take_succ_cons, flat2_take i L]
    rfl

theorem flat2_at {L : List (Int × Int)} {i : Nat} {p : Int × Int} (h : L[i]? = some p) : ((flat2 L).drop (i * 2)).take 2 = [.i .i64 p.1, .i .i64 p.2] := by
  obtain ⟨hi, rfl⟩ := List.getElem?_eq_some_iff.1 h
  rw [flat2_drop, List.drop_eq_getElem_cons hi]
  rfl

theorem pairs_of (B : Int → Prop) : ∀ (n : Nat) (c : List AV), n * 2 ≤ c.length → (∀ i, i < n → ∃ x y, (c.drop (i * 2)).take 2 = [.i .i64 x, .i .i64 y] ∧ B x ∧ B y) → ∃ L : List (Int × Int), L.length = n ∧ c.take (n * 2) = flat2 L ∧ ∀ p ∈ L, B p.1 ∧ B p.2
  | 0, c, _, _ => ⟨[], rfl, by simp [flat2], by simp⟩
  | n + 1, c, hl, h => by
    obtain ⟨x, y, h1, hx, hy⟩ := h 0 (by omega)
    simp only [Nat.zero_mul, List.drop_zero] at h1
    match c, hl with
    | a :: b :: c, hl =>
      simp only [List.take_succ_cons, List.take_zero, List.cons.injEq, and_true] at h1
      obtain ⟨rfl, rfl⟩ := h1
      obtain ⟨L, g1, g2, g3⟩ := pairs_of B n c (by simp only [List.length_cons] at hl; omega) fun i hi => by
        obtain ⟨x', y', k1, k2⟩ := h (i + 1) (by omega)
        exact ⟨x', y', by rw [show (i + 1) * 2 = i * 2 + 1 + 1 by omega, List.drop_succ_cons, List.drop_succ_cons] at k1; exact k1, k2⟩
      refine ⟨(x, y) :: L, by simp [g1], ?_, ?_⟩
      · rw [show (n + 1) * 2 = n * 2 + 1 + 1 by omega, List.take_succ_cons, List.take_succ_cons, g2]; rfl
      · intro p hp
        rcases List.mem_cons.1 hp with rfl | hp
        · exact ⟨hx, hy⟩
        · exact g3 p hp
    | [], hl => simp at hl
    | [_], hl => simp at hl; omega

def InI64 (x : Int) : Prop := -9223372036854775808 ≤ x ∧ x ≤ 9223372036854775807

theorem inI64_wf {x : Int} (h : (Lit.int .i64 x).wf = true) : InI64 x := by
  simp only [Lit.wf, IntKind.min, IntKind.max, IntKind.signed, IntKind.bits, Bool.and_eq_true, decide_eq_true_eq] at h
  unfold InI64
  simp at h
  omega

theorem typ_pairs {P : Program} {m : AMem} {t e : TypeId} {fs : Array Field} {f1 f2 : Field} {d : Nat} {a : AV} (ht : P.underlying t = some (.slice e)) (he : P.underlying e = some (.struct fs)) (hfs : fs.toList = [f1, f2]) (ho : f1.offset = 0 ∧ f2.offset = 1) (h1 : P.underlying f1.type = some (.int .i64)) (h2 : P.underlying f2.type = some (.int .i64)) (hc : P.cellsOf e = 2 ∧ P.cellsOf f1.type = 1 ∧ P.cellsOf f2.type = 1)
    (h : Typ P m (d + 3) t a.cells) (ha : a.one = true) : ((a = .sl none 0 0 true ∨ a = .es)) ∨ ∃ j len cap c L, a = .sl (some (j, 0)) len cap true ∧ len ≤ cap ∧ j < m.next ∧ m.get j = some (.cells c false ⟨1, none⟩) ∧ L.length = cap ∧ c.take (cap * 2) = flat2 L ∧ ∀ p ∈ L, InI64 p.1 ∧ InI64 p.2 := by
  simp only [Typ, ht, one_cells ha] at h
  rcases h with h | h | ⟨j, len, cap, c, h, q1, q2, q3, q4, q5, q6, q7⟩
  · simp only [List.cons.injEq, and_true] at h; exact .inl (.inl h)
  · simp only [List.cons.injEq, and_true] at h; exact .inl (.inr h)
  · simp only [List.cons.injEq, and_true] at h
    rw [hc.1] at q6
    obtain ⟨L, g1, g2, g3⟩ := pairs_of InI64 cap c q6 fun i hi => by
      have := q7 i hi
      simp only [he, hc.1, hfs] at this
      obtain ⟨k1, k2⟩ := this
      have k3 := k2 f1 (by simp)
      have k4 := k2 f2 (by simp)
      simp only [h1, h2, ho.1, ho.2, hc.2.1, hc.2.2] at k3 k4
      obtain ⟨x, k5, k6⟩ := k3
      obtain ⟨y, k7, k8⟩ := k4
      refine ⟨x, y, ?_, inI64_wf k6, inI64_wf k8⟩
      generalize (c.drop (i * 2)).take 2 = z at k1 k5 k7
      match z, k1 with
      | [u, v], _ => simp at k5 k7; subst k5; subst k7; rfl
    exact .inr ⟨j, len, cap, c, L, h, q1, q4, q5, g1, g2, g3⟩

def flatL (M : List (List Int)) : List AV := M.flatMap fun l => l.map (.i .i64 ·)

theorem flatL_at {k : Nat} : ∀ {M : List (List Int)} {i : Nat} {l : List Int}, (∀ x ∈ M, x.length = k) → M[i]? = some l → ((flatL M).drop (i * k)).take k = l.map (.i .i64 ·)
  | [], i, l, _, h => by simp at h
  | a :: M, 0, l, hk, h => by
    simp only [List.getElem?_cons_zero, Option.some.injEq] at h; subst h
    have ha := hk a (List.mem_cons_self ..)
    simp only [flatL, List.flatMap_cons, Nat.zero_mul, List.drop_zero]
    rw [List.take_append_of_le_length (by simp [ha]), List.take_of_length_le (by simp [ha])]
  | a :: M, i + 1, l, hk, h => by
    have ha := hk a (List.mem_cons_self ..)
    have ih := flatL_at (M := M) (i := i) (l := l) (fun x hx => hk x (List.mem_cons_of_mem _ hx)) (by simpa using h)
    have e : flatL (a :: M) = a.map (.i .i64 ·) ++ flatL M := rfl
    have e2 : (i + 1) * k = (a.map fun x => AV.i .i64 x).length + i * k := by rw [List.length_map, ha, Nat.add_mul, Nat.one_mul, Nat.add_comm]
    rw [e, e2, ← List.drop_drop, List.drop_left, ih]

theorem typ_ints {P : Program} {m : AMem} {d k : Nat} {e : TypeId} {fs : Array Field} {cs : List AV} (he : P.underlying e = some (.struct fs)) (hcov : coverB P 0 fs.toList = some k) (hc : P.cellsOf e = k) (hf : ∀ f ∈ fs.toList, P.underlying f.type = some (.int .i64) ∧ P.cellsOf f.type = 1)
    (h : Typ P m (d + 2) e cs) : ∃ l : List Int, cs = l.map (.i .i64 ·) ∧ l.length = k ∧ ∀ x ∈ l, InI64 x := by
  simp only [Typ, he, hc] at h
  obtain ⟨hl, h2⟩ := h
  have key : ∀ i, i < k → ∃ x, cs[i]? = some (.i .i64 x) ∧ InI64 x := by
    intro i hi
    obtain ⟨f, hfm, h3, h4⟩ := cover_spec _ _ _ hcov i (Nat.zero_le _) hi
    obtain ⟨h5, h6⟩ := hf f hfm
    have h7 := h2 f hfm
    simp only [h5, h6] at h7
    obtain ⟨x, h8, h9⟩ := h7
    have h10 : ((cs.drop f.offset).take 1)[0]? = some (.i .i64 x) := by rw [h8]; rfl
    rw [List.getElem?_take, if_pos (by omega), List.getElem?_drop] at h10
    exact ⟨x, by rw [show i = f.offset + 0 by omega]; exact h10, inI64_wf h9⟩
  clear h2
  induction k generalizing cs with
  | zero => exact ⟨[], List.length_eq_zero_iff.1 hl, rfl, by simp⟩
  | succ k ih =>
    exact (show ∀ (n : Nat) (cs : List AV), cs.length = n → (∀ i, i < n → ∃ x, cs[i]? = some (.i .i64 x) ∧ InI64 x) → ∃ l : List Int, cs = l.map (.i .i64 ·) ∧ l.length = n ∧ ∀ x ∈ l, InI64 x from by
      intro n
      induction n with
      | zero => intro cs hl _; exact ⟨[], List.length_eq_zero_iff.1 hl, rfl, by simp⟩
      | succ n ih2 =>
        intro cs hl hx
        match cs, hl with
        | a :: cs, hl =>
          obtain ⟨x, h1, h2⟩ := hx 0 (by omega)
          simp only [List.getElem?_cons_zero, Option.some.injEq] at h1; subst h1
          obtain ⟨l, g1, g2, g3⟩ := ih2 cs (by simpa using hl) fun i hi => by simpa using hx (i + 1) (by omega)
          exact ⟨x :: l, by rw [g1]; rfl, by simp [g2], fun y hy => by
            rcases List.mem_cons.1 hy with rfl | hy
            · exact h2
            · exact g3 y hy⟩) _ cs hl key

theorem rows_of {k : Nat} : ∀ (n : Nat) (c : List AV), n * k ≤ c.length → (∀ i, i < n → ∃ l : List Int, (c.drop (i * k)).take k = l.map (.i .i64 ·) ∧ l.length = k ∧ ∀ x ∈ l, InI64 x) → ∃ M : List (List Int), M.length = n ∧ c.take (n * k) = flatL M ∧ ∀ l ∈ M, l.length = k ∧ ∀ x ∈ l, InI64 x
  | 0, c, _, _ => ⟨[], rfl, by simp [flatL], by simp⟩
  | n + 1, c, hl, h => by
    obtain ⟨l, h1, h2, h3⟩ := h 0 (by omega)
    simp only [Nat.zero_mul, List.drop_zero] at h1
    have e : (n + 1) * k = k + n * k := by rw [Nat.add_mul, Nat.one_mul, Nat.add_comm]
    obtain ⟨M, g1, g2, g3⟩ := rows_of (k := k) n (c.drop k) (by rw [List.length_drop]; omega) fun i hi => by
      obtain ⟨l', k1, k2⟩ := h (i + 1) (by omega)
      refine ⟨l', ?_, k2⟩
      rw [List.drop_drop, ← k1]
      congr 2
      rw [Nat.add_mul, Nat.one_mul, Nat.add_comm]
    refine ⟨l :: M, by simp [g1], ?_, ?_⟩
    · rw [e, List.take_add, h1, g2]; rfl
    · intro x hx
      rcases List.mem_cons.1 hx with rfl | hx
      · exact ⟨h2, h3⟩
      · exact g3 x hx

theorem typ_rows {P : Program} {m : AMem} {t e : TypeId} {fs : Array Field} {d k : Nat} {a : AV} (ht : P.underlying t = some (.slice e)) (he : P.underlying e = some (.struct fs)) (hcov : coverB P 0 fs.toList = some k) (hc : P.cellsOf e = k) (hf : ∀ f ∈ fs.toList, P.underlying f.type = some (.int .i64) ∧ P.cellsOf f.type = 1)
    (h : Typ P m (d + 3) t [a]) : ((a = .sl none 0 0 true ∨ a = .es)) ∨ ∃ j len cap c M, a = .sl (some (j, 0)) len cap true ∧ len ≤ cap ∧ j < m.next ∧ m.get j = some (.cells c false ⟨1, none⟩) ∧ cap * k ≤ c.length ∧ M.length = cap ∧ c.take (cap * k) = flatL M ∧ ∀ l ∈ M, l.length = k ∧ ∀ x ∈ l, InI64 x := by
  rw [Typ] at h
  simp only [ht] at h
  rcases h with h | h | ⟨j, len, cap, c, h, q1, q2, q3, q4, q5, q6, q7⟩
  · simp only [List.cons.injEq, and_true] at h; exact .inl (.inl h)
  · simp only [List.cons.injEq, and_true] at h; exact .inl (.inr h)
  · simp only [List.cons.injEq, and_true] at h
    rw [hc] at q6 q7
    obtain ⟨M, g1, g2, g3⟩ := rows_of cap c q6 fun i hi => typ_ints (d := d) he hcov hc hf (q7 i hi)
    exact .inr ⟨j, len, cap, c, M, h, q1, q4, q5, q6, g1, g2, g3⟩

theorem int_arg {G : Nat} {tg : Nat → Option Tgt} {H : Type} {enc : TypeId × Value → H} {P : Program} {W : World} {args : Array Value} {ds : List (DataW H)} {p : List MemPlace} {t : TypeId} (hu : P.underlying t = some (.int .i64)) (hA : DataW.TrodAll enc P W 0 (fun _ => true) true [t] args.toList ds p)
    (hok : ∀ (j : Nat) t' v, [t][j]? = some t' → args.toList[j]? = some v → ∃ b0, Value.okWide P W .any b0 t' v) : ∃ x, VRL (rho0 G tg) [.i .i64 x] args.toList := by
  have h1 : args.toList.length = 1 := by
    have := (trodAll_len hA).1
    simpa using this
  generalize args.toList = l at h1 hok
  match l, h1 with
  | [v], _ =>
    obtain ⟨b0, hv0⟩ := hok 0 t v rfl rfl
    obtain ⟨x, hx⟩ := okWide_int hu hv0
    subst hx
    exact ⟨x, _, _, rfl, rfl, rfl⟩

theorem int_law {H : Type} {enc : TypeId × Value → H} {P : Program} {W : World} {args : Array Value} {ds : List (DataW H)} {p : List MemPlace} {t : TypeId} {ext T : Nat → VFn} {G f nt : Nat} {res : List VRes} {body : VC} (hu : P.underlying t = some (.int .i64)) (hA : DataW.TrodAll enc P W 0 (fun _ => true) true [t] args.toList ds p)
    (hok : ∀ (j : Nat) t' v, [t][j]? = some t' → args.toList[j]? = some v → ∃ b0, Value.okWide P W .any b0 t' v)
    (hx : ExtOk (envOf P G W) P ext) (hxg : ∀ f nt res b, ext f ≠ .go nt res b) (hxs : ∀ f g, ext f ≠ .sum g) (hT : ∀ f, T f = .none ∨ T f = fnOf P G ext f ∨ ∃ g, T f = .sum g ∧ SumOk (envOf P G W) P f g) (hm : P.follows .mixedOrders = true)
    (hf : T f = .go nt res body) (h : ∀ x, Vi.Call T f [.i .i64 x] { next := G, t := .nil } fun v _ => v = .b true) : Calls P f args W fun e W' => e = .returned (.bool true) ∧ Below W.heap.size W W' := by
  obtain ⟨x, hv⟩ := int_arg (G := G) (tg := fun _ => none) hu hA hok
  exact law_calls hx hxg hxs hT hm (rep_start P W G G (Nat.le_refl _) (fun _ => none) (fun _ _ => rfl) [] (by simp)) hv hf (h x)
end Go.Vi
