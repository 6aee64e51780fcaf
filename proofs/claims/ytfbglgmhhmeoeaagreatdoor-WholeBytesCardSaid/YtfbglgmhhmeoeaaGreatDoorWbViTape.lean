/- Tapes and their files, without a program in sight: what was packed is opened again. No condition. -/
import Derived.Test.YtfbglgmhhmeoeaaGreatDoorWbViDelta
namespace Go.Vi
open Go.RowKit
set_option linter.unusedSimpArgs false
set_option linter.unusedVariables false
def wasOf (g ev : Nat) (L : List St) (k : Nat) : St := if k % ev = 0 then .blank g else L.getD (k - 1) .zero
def tbn (g ev : Nat) (L : List St) : Nat → List UInt8
  | 0 => []
  | n + 1 => tbn g ev L n ++ denc (wasOf g ev L n) (L.getD n .zero)
structure TOk (g ev : Nat) (L : List St) : Prop where
  hg : g ≤ 99
  hev : 1 ≤ ev ∧ ev ≤ 1024
  rt : ∀ s ∈ L, s.rt g
  fits : (tbn g ev L L.length).length ≤ 16777216
theorem wasOf_app {g ev : Nat} {L M : List St} {k : Nat} (h : k ≤ L.length) : wasOf g ev (L ++ M) k = wasOf g ev L k := by
  unfold wasOf
  split
  · rfl
  · rename_i h0
    have : k - 1 < L.length := by
      rcases Nat.eq_zero_or_pos k with rfl | hk
      · simp at h0
      · omega
    simp only [List.getD_eq_getElem?_getD, List.getElem?_append_left this]
theorem tbn_app {g ev : Nat} {L M : List St} : ∀ {n : Nat}, n ≤ L.length → tbn g ev (L ++ M) n = tbn g ev L n
  | 0, _ => rfl
  | n + 1, h => by
    simp only [tbn, wasOf_app (show n ≤ L.length by omega), tbn_app (show n ≤ L.length by omega)]
    simp only [List.getD_eq_getElem?_getD, List.getElem?_append_left (show n < L.length by omega)]
theorem tbn_snoc {g ev : Nat} {L : List St} {s : St} : tbn g ev (L ++ [s]) (L ++ [s]).length = tbn g ev L L.length ++ denc (wasOf g ev L L.length) s := by
  rw [show (L ++ [s]).length = L.length + 1 by simp]
  simp only [tbn, tbn_app (Nat.le_refl _), wasOf_app (Nat.le_refl _)]
  simp [List.getD]
theorem tbn_pre {g ev : Nat} {L : List St} : ∀ {n k : Nat}, n ≤ k → ∃ r, tbn g ev L k = tbn g ev L n ++ r
  | n, 0, h => by
    obtain rfl : n = 0 := by omega
    exact ⟨[], by simp⟩
  | n, k + 1, h => by
    rcases Nat.lt_or_ge n (k + 1) with h1 | h1
    · obtain ⟨r, hr⟩ := tbn_pre (g := g) (ev := ev) (L := L) (show n ≤ k by omega)
      exact ⟨r ++ denc (wasOf g ev L k) (L.getD k .zero), by simp only [tbn, hr, List.append_assoc]⟩
    · obtain rfl : n = k + 1 := by omega
      exact ⟨[], by simp⟩
theorem caps_len {s : St} {g : Nat} (h : s.rt g) : s.caps.length = 2 * (g + 1) := by
  have := h.2.1; omega
theorem wasOf_ok {g ev : Nat} {L : List St} (h : ∀ s ∈ L, s.rt g) {k : Nat} (hk : k ≤ L.length) : (wasOf g ev L k).small ∧ (wasOf g ev L k).caps.length = 2 * (g + 1) ∧ (wasOf g ev L k = .blank g ∨ (wasOf g ev L k).rt g) := by
  unfold wasOf
  split
  · exact ⟨St.blank_small g, by simp [St.blank], .inl rfl⟩
  · rename_i h0
    have hlt : k - 1 < L.length := by
      rcases Nat.eq_zero_or_pos k with rfl | hk
      · simp at h0
      · omega
    have hm : L.getD (k - 1) .zero ∈ L := by
      rw [List.getD_eq_getElem?_getD, List.getElem?_eq_getElem hlt]
      exact List.getElem_mem hlt
    have hr := h _ hm
    exact ⟨hr.small, caps_len hr, .inr hr⟩
theorem getD_mem {L : List St} {k : Nat} (h : k < L.length) : L.getD k .zero ∈ L := by
  rw [List.getD_eq_getElem?_getD, List.getElem?_eq_getElem h]
  exact List.getElem_mem h
theorem read_at {g ev : Nat} {L : List St} (h : ∀ s ∈ L, s.rt g) {k : Nat} (hk : k < L.length) {b post : List UInt8} {a : Nat} (hb : b.drop a = denc (wasOf g ev L k) (L.getD k .zero) ++ post) :
    dread (wasOf g ev L k) b a = (L.getD k .zero, (denc (wasOf g ev L k) (L.getD k .zero)).length, 0) := by
  obtain ⟨h1, h2, _⟩ := wasOf_ok (ev := ev) h (show k ≤ L.length by omega)
  have hr := h _ (getD_mem hk)
  exact dread_denc h1 hr (by rw [h2, caps_len hr]) hb
theorem read_own {g ev : Nat} {L : List St} (h : ∀ s ∈ L, s.rt g) {k : Nat} (hk : k < L.length) :
    dread (wasOf g ev L k) (tbn g ev L L.length) (tbn g ev L k).length = (L.getD k .zero, (denc (wasOf g ev L k) (L.getD k .zero)).length, 0) := by
  obtain ⟨r, hr⟩ := tbn_pre (g := g) (ev := ev) (L := L) (show k + 1 ≤ L.length by omega)
  refine read_at h hk (post := r) ?_
  rw [hr]
  simp only [tbn, List.append_assoc]
  rw [List.drop_left]
/-! ### Files -/
def fhead (g ev n : Nat) : List UInt8 := [67, 76, 87, 49] ++ (vb g ++ (vb ev ++ vb n))
def fpack (g ev : Nat) (L : List St) : List UInt8 := fhead g ev L.length ++ tbn g ev L L.length
def fnum (b : List UInt8) (r : Nat × Bool) (most : Nat) : Nat × Nat × Bool :=
  if r.2 = true ∨ (vget b r.1).2.2 ≠ 0 ∨ most < (vget b r.1).1 then (0, r.1, true) else ((vget b r.1).1, r.1 + (vget b r.1).2.1, false)
def frd (b : List UInt8) (g ev : Nat) : Nat → Nat → List St → Option (Nat × List St)
  | 0, a, L => some (a, L)
  | n + 1, a, L =>
    let q := dread (wasOf g ev L L.length) b a
    if q.2.2 ≠ 0 then none
    else if 16777216 < (tbn g ev L L.length).length + (denc (wasOf g ev L L.length) q.1).length then none
    else frd b g ev n (a + q.2.1) (L ++ [q.1])
def fopen (b : List UInt8) : Option (Nat × Nat × List St) :=
  if b.take 4 ≠ [67, 76, 87, 49] then none
  else
    let g := fnum b (4, false) 99
    let e := fnum b g.2 1024
    let n := fnum b e.2 16777216
    if n.2.2 = true then none
    else if e.1 < 1 then none
    else match frd b g.1 e.1 n.1 n.2.1 [] with
      | some (a, L) => if a = b.length then some (g.1, e.1, L) else none
      | none => none
theorem fnum_le (b : List UInt8) (r : Nat × Bool) (most : Nat) : (fnum b r most).1 ≤ most := by
  unfold fnum
  split
  · exact Nat.zero_le _
  · simp only; omega
theorem fnum_at {b : List UInt8} {r : Nat × Bool} {most : Nat} (h : r.1 ≤ b.length) : (fnum b r most).2.1 ≤ b.length := by
  have := (vget_le b r.1).2.1
  unfold fnum
  split
  · exact h
  · simp only; omega
theorem fnum_vb {b r : List UInt8} {n a most : Nat} (hn : n < 18446744073709551616) (hm : n ≤ most) (hb : b.drop a = vb n ++ r) : fnum b (a, false) most = (n, a + (vb n).length, false) := by
  unfold fnum
  simp only [vget_vb hn hb]
  rw [if_neg (by simp; omega)]
theorem frd_ok {b : List UInt8} {g ev : Nat} (hg : g ≤ 99) (hev : 1 ≤ ev ∧ ev ≤ 1024) : ∀ {n a : Nat} {L : List St} {a' : Nat} {L' : List St}, a ≤ b.length → TOk g ev L → frd b g ev n a L = some (a', L') → TOk g ev L' ∧ L'.length = L.length + n
  | 0, a, L, a', L', _, hL, h => by
    simp only [frd, Option.some.injEq, Prod.mk.injEq] at h
    obtain ⟨_, rfl⟩ := h
    exact ⟨hL, rfl⟩
  | n + 1, a, L, a', L', ha, hL, h => by
    simp only [frd] at h
    split at h
    · simp at h
    · rename_i he
      split at h
      · simp at h
      · rename_i hf
        obtain ⟨h1, h2⟩ := dread_ok (was := wasOf g ev L L.length) ha (by omega)
        obtain ⟨_, hcl, _⟩ := wasOf_ok (ev := ev) hL.rt (Nat.le_refl L.length)
        have hgr : grp (wasOf g ev L L.length) = (g : Int) := by unfold grp; rw [hcl]; omega
        rw [hgr] at h1
        have := frd_ok hg hev (L := L ++ [(dread (wasOf g ev L L.length) b a).1]) h2 ⟨hg, hev, fun s hs => by
          rcases List.mem_append.1 hs with h | h
          · exact hL.rt s h
          · simp at h; exact h ▸ h1, by rw [tbn_snoc, List.length_append]; omega⟩ h
        refine ⟨this.1, ?_⟩
        rw [this.2]; simp; omega
theorem fopen_ok {b : List UInt8} {g ev : Nat} {L : List St} (h : fopen b = some (g, ev, L)) : TOk g ev L := by
  unfold fopen at h
  split at h
  · simp at h
  · rename_i h4
    simp only at h
    split at h
    · simp at h
    · split at h
      · simp at h
      · rename_i he
        have hb4 : 4 ≤ b.length := by
          have := congrArg List.length (Decidable.of_not_not h4)
          simp only [List.length_take, List.length_cons, List.length_nil] at this
          omega
        have hg1 := fnum_le b (4, false) 99
        have he1 := fnum_le b (fnum b (4, false) 99).2 1024
        have ha := fnum_at (b := b) (r := (4, false)) (most := 99) hb4
        have ha2 := fnum_at (b := b) (r := (fnum b (4, false) 99).2) (most := 1024) ha
        have ha3 := fnum_at (b := b) (r := (fnum b (fnum b (4, false) 99).2 1024).2) (most := 16777216) ha2
        split at h
        · rename_i a' L' hf
          split at h
          · simp only [Option.some.injEq, Prod.mk.injEq] at h
            obtain ⟨rfl, rfl, rfl⟩ := h
            exact (frd_ok hg1 ⟨by omega, he1⟩ ha3 ⟨hg1, ⟨by omega, he1⟩, by simp, by simp [tbn]⟩ hf).1
          · simp at h
        · simp at h
theorem frd_pack {b : List UInt8} {g ev : Nat} {L : List St} (hL : TOk g ev L) {h : Nat} (hb : b.drop h = tbn g ev L L.length) (hh : h ≤ b.length) : ∀ (n k : Nat), k + n = L.length → frd b g ev n (h + (tbn g ev L k).length) (L.take k) = some (b.length, L)
  | 0, k, hk => by
    obtain rfl : k = L.length := by omega
    have : b.length = h + (tbn g ev L L.length).length := by rw [← hb, List.length_drop]; omega
    simp only [frd, List.take_length, this]
  | n + 1, k, hk => by
    have hlt : k < L.length := by omega
    have hlen : (L.take k).length = k := by rw [List.length_take]; omega
    have e1 : wasOf g ev (L.take k) (L.take k).length = wasOf g ev L k := by
      have := wasOf_app (g := g) (ev := ev) (L := L.take k) (M := L.drop k) (k := k) (by omega)
      rw [List.take_append_drop] at this
      rw [hlen, this]
    have e2 : tbn g ev (L.take k) (L.take k).length = tbn g ev L k := by
      have := tbn_app (g := g) (ev := ev) (L := L.take k) (M := L.drop k) (n := k) (by omega)
      rw [List.take_append_drop] at this
      rw [hlen, this]
    obtain ⟨r, hr⟩ := tbn_pre (g := g) (ev := ev) (L := L) (show k + 1 ≤ L.length by omega)
    have hd : b.drop (h + (tbn g ev L k).length) = denc (wasOf g ev L k) (L.getD k .zero) ++ r := by
      rw [← List.drop_drop, hb, hr]
      simp only [tbn, List.append_assoc]
      rw [List.drop_left]
    have hread := read_at hL.rt hlt hd
    have hfit : (tbn g ev L k).length + (denc (wasOf g ev L k) (L.getD k .zero)).length ≤ 16777216 := by
      have := congrArg List.length hr
      simp only [tbn, List.length_append] at this
      have := hL.fits
      omega
    have e3 : L.take k ++ [L.getD k .zero] = L.take (k + 1) := by
      rw [List.take_add_one, List.getD_eq_getElem?_getD, List.getElem?_eq_getElem hlt]
      rfl
    simp only [frd, e1, e2, hread]
    rw [if_neg (by simp), if_neg (by omega), e3]
    have := frd_pack hL hb hh n (k + 1) (by omega)
    simp only [tbn, List.length_append] at this
    rw [← Nat.add_assoc] at this
    exact this
theorem fopen_pack {g ev : Nat} {L : List St} (hL : TOk g ev L) (hn : L.length ≤ 16777216) : fopen (fpack g ev L) = some (g, ev, L) := by
  have hg := hL.hg
  obtain ⟨hev0, hev⟩ := hL.hev
  have h4 : (fpack g ev L).take 4 = [67, 76, 87, 49] := by simp [fpack, fhead]
  have hd4 : (fpack g ev L).drop 4 = vb g ++ (vb ev ++ (vb L.length ++ tbn g ev L L.length)) := by simp [fpack, fhead]
  have h1 := fnum_vb (most := 99) (by omega) hg hd4
  have hd5 := drop_app hd4
  have h2 := fnum_vb (most := 1024) (by omega) hev hd5
  have hd6 := drop_app hd5
  have h3 := fnum_vb (most := 16777216) (by omega) hn hd6
  have hd7 := drop_app hd6
  have hlen : 4 + (vb g).length + (vb ev).length + (vb L.length).length ≤ (fpack g ev L).length := by
    simp only [fpack, fhead, List.length_append, List.length_cons, List.length_nil]
    omega
  have hf := frd_pack hL hd7 hlen L.length 0 (by omega)
  simp only [tbn, List.length_nil, Nat.add_zero, List.take_zero] at hf
  unfold fopen
  rw [if_neg (by simpa using h4)]
  simp only [h1, h2, h3]
  rw [if_neg (by simp), if_neg (by omega), hf]
  simp
end Go.Vi
