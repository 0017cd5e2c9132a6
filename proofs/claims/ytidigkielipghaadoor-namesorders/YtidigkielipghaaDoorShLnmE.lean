/- Lists that grow in what is gathered. -/
import Derived.Test.YtidigkielipghaaDoorShLnmD
set_option linter.unusedVariables false
set_option linter.unusedSimpArgs false
set_option linter.unusedSectionVars false
namespace Go.Sh
def lenK (k : Kn) : Bool → Nat
  | false => k.fs.length
  | true => k.ts.length
theorem usd_eq (G : Gth) (n : Byt8) (b : Bool) : usd G n b = lenK (getN' n G) b := by cases b <;> rfl
section
variable {m : Nat} {G : Gth} {P : List (Nat × List V)} {st st' : St} {R : Byt8 → Nat} {T T' : Byt8 → Bool → Nat} {n : Byt8}
theorem GI.set (h : GI m G R T P st) (hn : n ∈ keysN G) {k' : Kn} {B : Nat → Prop} (k : Kp st st' (fun i => i = R n) B) (hB : ∀ t, B t → ∃ b, usd G n b ≠ 0 ∧ t = T n b) (hrow : st'.row (R n) = some (knV k' (T' n false) (T' n true)))
    (hT : ∀ x b, x ≠ n → T' x b = T x b) (hu : ∀ b, lenK k' b ≠ 0 → st'.tips[T' n b]? = some (lenK k' b) ∧ (usd G n b ≠ 0 ∧ T' n b = T n b ∨ st.tips.length ≤ T' n b)) (hd : lenK k' false ≠ 0 → lenK k' true ≠ 0 → T' n false ≠ T' n true) :
    GI m (updN n (fun _ => k') G) R T' P st' := by
  have hk : keysN (updN n (fun _ => k') G) = keysN G := by rw [keys_upd, if_pos hn]
  have hg : ∀ x, getN' x (updN n (fun _ => k') G) = if n = x then k' else getN' x G := fun x => by
    rw [get_upd]
    by_cases e : x = n
    · rw [if_pos e, if_pos e.symm]
    · rw [if_neg e, if_neg fun a => e a.symm]
  have hus : ∀ x b, usd (updN n (fun _ => k') G) x b = if n = x then lenK k' b else usd G x b := fun x b => by
    rw [usd_eq, hg, usd_eq]
    split <;> rfl
  have hmn : m ≠ R n := fun e => row_map_ne (h.row n hn) h.mp e.symm
  have htl : ∀ x b, usd G x b ≠ 0 → T x b < st.tips.length := fun x b hx => (List.getElem?_eq_some_iff.1 (h.tk x b hx)).1
  have hold : ∀ x b, x ≠ n → usd G x b ≠ 0 → st'.tips[T x b]? = some (usd G x b) := fun x b hx hux => by
    rw [k.tips _ (htl x b hux), h.tk x b hux]
    intro hb
    obtain ⟨b', h1, h2⟩ := hB _ hb
    exact hx (h.ti x b n b' hux h1 h2).1
  refine ⟨k.floor.trans h.fl, k.tfloor.trans h.tf, ?_, by rw [hk]; exact h.nd, fun x hx => ?_, by rw [hk]; exact h.inj, fun x b hx => ?_, fun x b x' b' hx hx' e => ?_, fun x hx => ?_⟩
  · rw [hk, map_of_heap (k.heap m (map_lt h.mp) hmn)]
    exact h.mp
  · rw [hk] at hx
    rw [hg]
    by_cases e : n = x
    · subst e
      rw [if_pos rfl]
      exact hrow
    · have e' : x ≠ n := fun a => e a.symm
      rw [if_neg e, hT x false e', hT x true e', row_of_heap (k.heap _ (row_lt (h.row x hx)) fun a => e' (h.inj x hx n hn a))]
      exact h.row x hx
  · rw [hus] at hx ⊢
    by_cases e : n = x
    · subst e
      rw [if_pos rfl] at hx ⊢
      exact (hu b hx).1
    · have e' : x ≠ n := fun a => e a.symm
      rw [if_neg e] at hx ⊢
      rw [hT x b e']
      exact hold x b e' hx
  · rw [hus] at hx hx'
    by_cases e1 : n = x
    · subst e1
      rw [if_pos rfl] at hx
      by_cases e2 : n = x'
      · subst e2
        rw [if_pos rfl] at hx'
        refine ⟨rfl, ?_⟩
        cases b <;> cases b'
        · rfl
        · exact absurd e (hd hx hx')
        · exact absurd e.symm (hd hx' hx)
        · rfl
      · have e2' : x' ≠ n := fun a => e2 a.symm
        rw [if_neg e2] at hx'
        rw [hT x' b' e2'] at e
        rcases (hu b hx).2 with ⟨h1, h2⟩ | h2
        · rw [h2] at e
          exact h.ti n b x' b' h1 hx' e
        · have := htl x' b' hx'
          omega
    · have e1' : x ≠ n := fun a => e1 a.symm
      rw [if_neg e1] at hx
      rw [hT x b e1'] at e
      by_cases e2 : n = x'
      · subst e2
        rw [if_pos rfl] at hx'
        rcases (hu b' hx').2 with ⟨h1, h2⟩ | h2
        · rw [h2] at e
          exact h.ti x b n b' hx h1 e
        · have := htl x b hx
          omega
      · have e2' : x' ≠ n := fun a => e2 a.symm
        rw [if_neg e2] at hx'
        rw [hT x' b' e2'] at e
        exact h.ti x b x' b' hx hx' e
  · have := h.pv x hx
    refine ⟨?_, by rw [hk]; exact this.2⟩
    rw [row_of_heap (k.heap _ (row_lt this.1) (this.2 n hn))]
    exact this.1
theorem upd_const (n : Byt8) (f : Kn → Kn) : ∀ G : Gth, updN n f G = updN n (fun _ => f (getN' n G)) G
  | [] => rfl
  | (k, v) :: r => by
    have ih := upd_const n f r
    by_cases h : k = n
    · simp [updN, getN', h]
    · simp [updN, getN', h, ih]
def addFs (b : Bnd) (y : Kn) : Kn := { y with fs := y.fs ++ [b] }
def addTs (b : TbS) (y : Kn) : Kn := { y with ts := y.ts ++ [b] }
def setEx (y : Kn) : Kn := { y with ex := true }
theorem GP.fs {p : Nat} (h : GP m G P n p st) (b : Bnd) (hb : (getN' n G).fs.length < 1099511627776) : ∃ a c e a' st1 st2, st.row p = some [a, c, e] ∧ appV 3 32 st a (.d (.sl 1 true b.cells)) = some (a', st1) ∧ st1.row p = some [a, c, e] ∧ st1.setBlk p (.row [a', c, e]) = some st2 ∧ a'.ok1 = true ∧ a'.cs = [a'] ∧ GS m (updN n (addFs b) G) P st2 := by
  obtain ⟨R, T, h, hn, rfl⟩ := h
  obtain ⟨t', tips', h1, h2, h3, h4, h5⟩ := grl_app (by' := 32) Bnd.c3 (l := (getN' n G).fs) (t := T n false) (st := st) (fun hl => h.tk n false (by simp [usd]; exact hl)) h.tf b (by omega) (by omega)
  have hr := h.row n hn
  obtain ⟨st1, hst1⟩ : ∃ st1 : St, st1 = { st with tips := tips' } := ⟨_, rfl⟩
  rw [← hst1] at h1
  have hr1 : st1.row (R n) = some (knV (getN' n G) (T n false) (T n true)) := by rw [hst1]; exact hr
  have hf1 : st1.floor = 0 := by rw [hst1]; exact h.fl
  have hone := grl_one Bnd.cells 3 ((getN' n G).fs ++ [b]) t'
  refine ⟨_, _, _, _, st1, _, hr, h1, hr1, setBlk_put hf1, hone.1, hone.2, R, fun x d => if x = n ∧ d = false then t' else T x d, ?_⟩
  rw [upd_const]
  have k1 : Kp st st1 (fun i => i = R n) (fun u => (getN' n G).fs ≠ [] ∧ u = T n false) := by
    refine ⟨by rw [hst1], by rw [hst1], by rw [hst1]; exact Nat.le_refl _, by rw [hst1]; exact h2, fun i _ _ => by rw [hst1], fun u hu hnu => ?_⟩
    rw [hst1]
    refine h3 u hu ?_
    by_cases e : (getN' n G).fs = []
    · exact .inl e
    · exact .inr fun e' => hnu ⟨e, e'⟩
  have k2 := k1.trans (Kp.put (id := R n) (cs := [grl Bnd.cells 3 ((getN' n G).fs ++ [b]) t', grl TbS.cells 5 (getN' n G).ts (T n true), .d (.b (getN' n G).ex)]) rfl)
  have hlt := row_lt hr1
  refine h.set hn k2 ?_ ?_ (fun x d hx => if_neg fun e => hx e.1) (fun d hd => ?_) (fun _ hd => ?_)
  · rintro t ⟨e1, rfl⟩
    exact ⟨false, by simp [usd]; exact e1, rfl⟩
  · rw [row_put_eq hlt]
    simp [knV, addFs]
  · cases d
    · rw [if_pos ⟨rfl, rfl⟩]
      refine ⟨?_, ?_⟩
      · simp only [lenK, addFs]
        rw [← h4]
        show (St.put _ _ _).tips[t']? = _
        simp [St.put, hst1]
      · rcases h5 with ⟨h5, rfl⟩ | h5
        · exact .inl ⟨by simp [usd]; exact h5, rfl⟩
        · exact .inr (by omega)
    · rw [if_neg (fun e => by cases e.2)]
      have hu : usd G n true ≠ 0 := by simpa [lenK, addFs, usd] using hd
      refine ⟨?_, .inl ⟨hu, rfl⟩⟩
      have ht := h.tk n true hu
      rw [k2.tips _ (List.getElem?_eq_some_iff.1 ht).1, ht]
      · rfl
      · rintro ⟨e1, e2⟩
        have := (h.ti n true n false hu (by simp [usd]; exact e1) e2).2
        cases this
  · rw [if_pos ⟨rfl, rfl⟩, if_neg (fun e => by cases e.2)]
    have hu : usd G n true ≠ 0 := by simpa [lenK, addFs, usd] using hd
    have ht := h.tk n true hu
    have hlt' := (List.getElem?_eq_some_iff.1 ht).1
    rcases h5 with ⟨h5, rfl⟩ | h5
    · intro e
      have := (h.ti n false n true (by simp [usd]; exact h5) hu e).2
      cases this
    · omega
theorem GP.ts {p : Nat} (h : GP m G P n p st) (b : TbS) (hb : (getN' n G).ts.length < 1099511627776) : ∃ a c e c' st1 st2, st.row p = some [a, c, e] ∧ appV 5 48 st c (.d (.sl 1 true b.cells)) = some (c', st1) ∧ st1.row p = some [a, c, e] ∧ st1.setBlk p (.row [a, c', e]) = some st2 ∧ c'.ok1 = true ∧ c'.cs = [c'] ∧ GS m (updN n (addTs b) G) P st2 := by
  obtain ⟨R, T, h, hn, rfl⟩ := h
  obtain ⟨t', tips', h1, h2, h3, h4, h5⟩ := grl_app (by' := 48) TbS.c5 (l := (getN' n G).ts) (t := T n true) (st := st) (fun hl => h.tk n true (by simp [usd]; exact hl)) h.tf b (by omega) (by omega)
  have hr := h.row n hn
  obtain ⟨st1, hst1⟩ : ∃ st1 : St, st1 = { st with tips := tips' } := ⟨_, rfl⟩
  rw [← hst1] at h1
  have hr1 : st1.row (R n) = some (knV (getN' n G) (T n false) (T n true)) := by rw [hst1]; exact hr
  have hf1 : st1.floor = 0 := by rw [hst1]; exact h.fl
  have hone := grl_one TbS.cells 5 ((getN' n G).ts ++ [b]) t'
  refine ⟨_, _, _, _, st1, _, hr, h1, hr1, setBlk_put hf1, hone.1, hone.2, R, fun x d => if x = n ∧ d = true then t' else T x d, ?_⟩
  rw [upd_const]
  have k1 : Kp st st1 (fun i => i = R n) (fun u => (getN' n G).ts ≠ [] ∧ u = T n true) := by
    refine ⟨by rw [hst1], by rw [hst1], by rw [hst1]; exact Nat.le_refl _, by rw [hst1]; exact h2, fun i _ _ => by rw [hst1], fun u hu hnu => ?_⟩
    rw [hst1]
    refine h3 u hu ?_
    by_cases e : (getN' n G).ts = []
    · exact .inl e
    · exact .inr fun e' => hnu ⟨e, e'⟩
  have k2 := k1.trans (Kp.put (id := R n) (cs := [grl Bnd.cells 3 (getN' n G).fs (T n false), grl TbS.cells 5 ((getN' n G).ts ++ [b]) t', .d (.b (getN' n G).ex)]) rfl)
  have hlt := row_lt hr1
  refine h.set hn k2 ?_ ?_ (fun x d hx => if_neg fun e => hx e.1) (fun d hd => ?_) (fun hd _ => ?_)
  · rintro t ⟨e1, rfl⟩
    exact ⟨true, by simp [usd]; exact e1, rfl⟩
  · rw [row_put_eq hlt]
    simp [knV, addTs]
  · cases d
    · rw [if_neg (fun e => by cases e.2)]
      have hu : usd G n false ≠ 0 := by simpa [lenK, addTs, usd] using hd
      refine ⟨?_, .inl ⟨hu, rfl⟩⟩
      have ht := h.tk n false hu
      rw [k2.tips _ (List.getElem?_eq_some_iff.1 ht).1, ht]
      · rfl
      · rintro ⟨e1, e2⟩
        have := (h.ti n false n true hu (by simp [usd]; exact e1) e2).2
        cases this
    · rw [if_pos ⟨rfl, rfl⟩]
      refine ⟨?_, ?_⟩
      · simp only [lenK, addTs]
        rw [← h4]
        show (St.put _ _ _).tips[t']? = _
        simp [St.put, hst1]
      · rcases h5 with ⟨h5, rfl⟩ | h5
        · exact .inl ⟨by simp [usd]; exact h5, rfl⟩
        · exact .inr (by omega)
  · rw [if_neg (fun e => by cases e.2), if_pos ⟨rfl, rfl⟩]
    have hu : usd G n false ≠ 0 := by simpa [lenK, addTs, usd] using hd
    have ht := h.tk n false hu
    have hlt' := (List.getElem?_eq_some_iff.1 ht).1
    rcases h5 with ⟨h5, rfl⟩ | h5
    · intro e
      have := (h.ti n false n true hu (by simp [usd]; exact h5) e).2
      cases this
    · omega
theorem GP.ex {p : Nat} (h : GP m G P n p st) : ∃ a c e st2, st.row p = some [a, c, e] ∧ st.setBlk p (.row [a, c, .d (.b true)]) = some st2 ∧ GS m (updN n setEx G) P st2 := by
  obtain ⟨R, T, h, hn, rfl⟩ := h
  have hr := h.row n hn
  have hlt := row_lt hr
  refine ⟨_, _, _, _, hr, setBlk_put h.fl, R, T, ?_⟩
  rw [upd_const]
  have k2 : Kp st (st.put (R n) [grl Bnd.cells 3 (getN' n G).fs (T n false), grl TbS.cells 5 (getN' n G).ts (T n true), .d (.b true)]) (fun i => i = R n) (fun _ => False) := .put rfl
  refine h.set hn k2 (fun _ e => e.elim) ?_ (fun _ _ _ => rfl) (fun d hd => ?_) (fun h1 h2 e => ?_)
  · rw [row_put_eq hlt]
    simp [knV, setEx]
  · have hu : usd G n d ≠ 0 := by
      rw [usd_eq]
      cases d <;> exact hd
    have ht := h.tk n d hu
    refine ⟨?_, .inl ⟨hu, rfl⟩⟩
    rw [k2.tips _ (List.getElem?_eq_some_iff.1 ht).1 (fun e => e), ht, usd_eq]
    cases d <;> rfl
  · have := (h.ti n false n true h1 h2 e).2
    cases this
end
end Go.Sh
