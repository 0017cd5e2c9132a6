/- What a run may not touch: below the floors all stays. And the tie behind a cut. -/
import Derived.Test.YtgafhgbnjohbeabDoorSh4
set_option linter.unusedVariables false
set_option linter.unusedSimpArgs false
namespace Go.Sh
open Go.RowKit

structure Fl (a b : St) : Prop where
  fl : b.floor = a.floor
  tfl : b.tfloor = a.tfloor
  hlen : a.heap.length ≤ b.heap.length
  tlen : a.tips.length ≤ b.tips.length
  heap : ∀ id : Nat, id < a.floor → id < a.heap.length → b.heap[id]? = a.heap[id]?
  tips : ∀ t : Nat, t < a.tfloor → t < a.tips.length → b.tips[t]? = a.tips[t]?
theorem Fl.refl (a : St) : Fl a a := ⟨rfl, rfl, Nat.le_refl _, Nat.le_refl _, fun _ _ _ => rfl, fun _ _ _ => rfl⟩
theorem Fl.trans {a b c : St} (h : Fl a b) (k : Fl b c) : Fl a c :=
  ⟨k.fl.trans h.fl, k.tfl.trans h.tfl, Nat.le_trans h.hlen k.hlen, Nat.le_trans h.tlen k.tlen,
    fun i h1 h2 => (k.heap i (by rw [h.fl]; exact h1) (Nat.lt_of_lt_of_le h2 h.hlen)).trans (h.heap i h1 h2),
    fun i h1 h2 => (k.tips i (by rw [h.tfl]; exact h1) (Nat.lt_of_lt_of_le h2 h.tlen)).trans (h.tips i h1 h2)⟩
theorem Fl.push (a : St) (b : Blk) : Fl a (a.push b) :=
  ⟨rfl, rfl, by simp [St.push], Nat.le_refl _, fun i _ h => by simp only [St.push]; rw [List.getElem?_append_left h], fun _ _ _ => rfl⟩
theorem Fl.setBlk {a b : St} {id : Nat} {blk : Blk} (h : a.setBlk id blk = some b) : Fl a b := by
  unfold St.setBlk at h
  split at h
  · rename_i hf
    simp only [Option.some.injEq] at h
    subst h
    refine ⟨rfl, rfl, by simp, Nat.le_refl _, fun i h1 _ => ?_, fun _ _ _ => rfl⟩
    simp only [List.getElem?_set]
    rw [if_neg (by omega)]
  · cases h
theorem Fl.tip {a : St} (n : Nat) : Fl a { a with tips := a.tips ++ [n] } :=
  ⟨rfl, rfl, Nat.le_refl _, by simp, fun _ _ _ => rfl, fun i _ h => by simp only; rw [List.getElem?_append_left h]⟩
theorem Fl.tipSet {a : St} {t n : Nat} (h : a.tfloor ≤ t) : Fl a { a with tips := a.tips.set t n } :=
  ⟨rfl, rfl, Nat.le_refl _, by simp, fun _ _ _ => rfl, fun i h1 h2 => by simp only [List.getElem?_set]; rw [if_neg (by omega)]⟩

theorem pureR_st {st st' : St} {x : Option V} {v : V} (h : pureR st x = some (v, st')) : x = some v ∧ st' = st := by
  unfold pureR at h
  split at h
  · simp only [Option.some.injEq, Prod.mk.injEq] at h
    exact ⟨by rw [h.1], h.2.symm⟩
  · cases h
theorem stR_st {st' : St} {x : Option St} {v : V} (h : stR x = some (v, st')) : x = some st' ∧ v = .un := by
  unfold stR at h
  split at h
  · simp only [Option.some.injEq, Prod.mk.injEq] at h
    exact ⟨by rw [h.2], h.1.symm⟩
  · cases h
theorem bind1_some {x : Option V} {f : V → Option (V × St)} {r : V × St} (h : bind1 x f = some r) : ∃ v, x = some v ∧ f v = some r := by
  unfold bind1 at h
  split at h
  · exact ⟨_, rfl, h⟩
  · cases h
theorem appV_fl {size bytes : Nat} {st st' : St} {s x v : V} (h : appV size bytes st s x = some (v, st')) : Fl st st' := by
  unfold appV at h
  split at h
  · split at h
    · split at h
      · rename_i hc
        simp only [Option.some.injEq, Prod.mk.injEq] at h
        obtain ⟨_, rfl⟩ := h
        exact Fl.tipSet hc.2.1
      · cases h
    · cases h
  · split at h
    · split at h
      · simp only [Option.some.injEq, Prod.mk.injEq] at h
        obtain ⟨_, rfl⟩ := h
        exact Fl.tip _
      · cases h
    · cases h
  · cases h
theorem storeV_fl {size : Nat} {st st' : St} {p x : V} (h : storeV size st p x = some st') : Fl st st' := by
  unfold storeV at h
  split at h
  · split at h
    · split at h
      · exact Fl.setBlk h
      · cases h
    · cases h
  · cases h
theorem mapSetV_fl {st st' : St} {m k x : V} (h : mapSetV st m k x = some st') : Fl st st' := by
  unfold mapSetV at h
  split at h
  · split at h
    · split at h
      · split at h
        · exact Fl.setBlk h
        · cases h
      · cases h
    · cases h
  · cases h
theorem cpyV_fl {size : Nat} {st st' : St} {a b v : V} (h : cpyV size st a b = some (v, st')) : Fl st st' := by
  unfold cpyV at h
  split at h
  · split at h
    · cases h
    · split at h
      · split at h
        · simp only [Option.map_eq_some_iff, Prod.mk.injEq] at h
          obtain ⟨s, h1, _, rfl⟩ := h
          exact Fl.setBlk h1
        · cases h
      · cases h
  · cases h

def CallFl (call : CallF) : Prop := ∀ f args st v st', call f args st = some (v, st') → Fl st st'
theorem opS_fl {P : Prog} {call : CallF} (hc : CallFl call) {e : Env} {st st' : St} {o : SOp} {v : V} (h : opS P call e st o = some (v, st')) : Fl st st' := by
  cases o <;> simp only [opS] at h
  case mov => exact (pureR_st h).2 ▸ Fl.refl _
  case tok =>
    obtain ⟨x, _, h⟩ := bind1_some h
    split at h
    · simp only [Option.some.injEq, Prod.mk.injEq] at h
      obtain ⟨_, rfl⟩ := h
      exact Fl.tip _
    · cases h
  case pick =>
    obtain ⟨x, _, h⟩ := bind1_some h
    split at h
    · obtain ⟨y, _, h⟩ := bind1_some h
      obtain ⟨z, _, h⟩ := bind1_some h
      simp only [Option.some.injEq, Prod.mk.injEq] at h
      obtain ⟨_, rfl⟩ := h
      exact Fl.refl _
    · cases h
  case s2b =>
    obtain ⟨x, _, h⟩ := bind1_some h
    split at h
    · simp only [Option.some.injEq, Prod.mk.injEq] at h
      obtain ⟨_, rfl⟩ := h
      exact Fl.refl _
    · cases h
  case build =>
    split at h
    · exact (pureR_st h).2 ▸ Fl.refl _
    · cases h
  case lits =>
    split at h
    · exact (pureR_st h).2 ▸ Fl.refl _
    · cases h
  case litsO =>
    split at h
    · split at h
      · split at h
        · simp only [Option.some.injEq, Prod.mk.injEq] at h
          obtain ⟨_, rfl⟩ := h
          exact Fl.tip _
        · cases h
      · cases h
    · cases h
  case litsR =>
    split at h
    · split at h
      · simp only [Option.some.injEq, Prod.mk.injEq] at h
        obtain ⟨_, rfl⟩ := h
        exact Fl.push _ _
      · cases h
    · cases h
  case box =>
    obtain ⟨x, _, h⟩ := bind1_some h
    split at h
    · simp only [Option.some.injEq, Prod.mk.injEq] at h
      obtain ⟨_, rfl⟩ := h
      exact Fl.push _ _
    · cases h
  case boxI =>
    obtain ⟨x, _, h⟩ := bind1_some h
    split at h
    · exact (pureR_st h).2 ▸ Fl.refl _
    · cases h
  case alloc =>
    simp only [Option.some.injEq, Prod.mk.injEq] at h
    obtain ⟨_, rfl⟩ := h
    exact Fl.push _ _
  case store =>
    obtain ⟨x, _, h⟩ := bind1_some h
    obtain ⟨y, _, h⟩ := bind1_some h
    exact storeV_fl (stR_st h).1
  case slc =>
    obtain ⟨x, _, h⟩ := bind1_some h
    split at h
    · exact (pureR_st h).2 ▸ Fl.refl _
    · cases h
  case slcS =>
    obtain ⟨x, _, h⟩ := bind1_some h
    split at h
    · exact (pureR_st h).2 ▸ Fl.refl _
    · cases h
  case slcA =>
    obtain ⟨x, _, h⟩ := bind1_some h
    split at h
    · exact (pureR_st h).2 ▸ Fl.refl _
    · cases h
  case mkR =>
    obtain ⟨x, _, h⟩ := bind1_some h
    obtain ⟨y, _, h⟩ := bind1_some h
    split at h
    · split at h
      · simp only [Option.some.injEq, Prod.mk.injEq] at h
        obtain ⟨_, rfl⟩ := h
        exact Fl.push _ _
      · cases h
    · cases h
  case mkD =>
    obtain ⟨x, _, h⟩ := bind1_some h
    obtain ⟨y, _, h⟩ := bind1_some h
    split at h
    · split at h
      · simp only [Option.some.injEq, Prod.mk.injEq] at h
        obtain ⟨_, rfl⟩ := h
        exact Fl.refl _
      · cases h
    · cases h
  case mkO =>
    obtain ⟨x, _, h⟩ := bind1_some h
    obtain ⟨y, _, h⟩ := bind1_some h
    split at h
    · split at h
      · simp only [Option.some.injEq, Prod.mk.injEq] at h
        obtain ⟨_, rfl⟩ := h
        exact Fl.tip _
      · cases h
    · cases h
  case lenA =>
    simp only [Option.some.injEq, Prod.mk.injEq] at h
    obtain ⟨_, rfl⟩ := h
    exact Fl.refl _
  case appR => cases h
  case app =>
    obtain ⟨x, _, h⟩ := bind1_some h
    obtain ⟨y, _, h⟩ := bind1_some h
    exact appV_fl h
  case cpy =>
    obtain ⟨x, _, h⟩ := bind1_some h
    obtain ⟨y, _, h⟩ := bind1_some h
    exact cpyV_fl h
  case mkMap =>
    simp only [Option.some.injEq, Prod.mk.injEq] at h
    obtain ⟨_, rfl⟩ := h
    exact Fl.push _ _
  case lenM =>
    obtain ⟨x, _, h⟩ := bind1_some h
    split at h
    · simp only [Option.some.injEq, Prod.mk.injEq] at h
      obtain ⟨_, rfl⟩ := h
      exact Fl.refl _
    · split at h
      · simp only [Option.some.injEq, Prod.mk.injEq] at h
        obtain ⟨_, rfl⟩ := h
        exact Fl.refl _
      · cases h
    · cases h
  case mapSet =>
    obtain ⟨x, _, h⟩ := bind1_some h
    obtain ⟨y, _, h⟩ := bind1_some h
    obtain ⟨z, _, h⟩ := bind1_some h
    split at h
    · exact mapSetV_fl (stR_st h).1
    · cases h
  case extract =>
    obtain ⟨x, _, h⟩ := bind1_some h
    split at h
    · exact (pureR_st h).2 ▸ Fl.refl _
    · cases h
  case nilChk =>
    obtain ⟨x, _, h⟩ := bind1_some h
    split at h <;> first
      | (cases h; done)
      | (simp only [Option.some.injEq, Prod.mk.injEq] at h
         obtain ⟨_, rfl⟩ := h
         exact Fl.refl _)
  case call =>
    split at h
    · exact hc _ _ _ _ _ h
    · cases h
  case invoke =>
    obtain ⟨x, _, h⟩ := bind1_some h
    split at h
    · split at h
      · exact hc _ _ _ _ _ h
      · cases h
    · cases h
  case mx =>
    obtain ⟨x, _, h⟩ := bind1_some h
    obtain ⟨y, _, h⟩ := bind1_some h
    exact (pureR_st h).2 ▸ Fl.refl _
  case mn =>
    obtain ⟨x, _, h⟩ := bind1_some h
    obtain ⟨y, _, h⟩ := bind1_some h
    exact (pureR_st h).2 ▸ Fl.refl _
  all_goals first
    | (obtain ⟨x, _, h⟩ := bind1_some h
       first
        | exact (pureR_st h).2 ▸ Fl.refl _
        | (obtain ⟨y, _, h⟩ := bind1_some h
           exact (pureR_st h).2 ▸ Fl.refl _))
theorem opsS_fl {P : Prog} {call : CallF} (hc : CallFl call) {all : List SOper} : ∀ {l : List SOper} {e e' : Env} {st st' : St}, opsS P call all l e st = some (e', st') → Fl st st'
  | [], e, e', st, st', h => by
    simp only [opsS, Option.some.injEq, Prod.mk.injEq] at h
    exact h.2 ▸ Fl.refl _
  | o :: r, e, e', st, st', h => by
    simp only [opsS] at h
    split at h
    · split at h
      · rename_i v s1 ho
        exact (opS_fl hc ho).trans (opsS_fl hc h)
      · cases h
    · exact opsS_fl hc h
    · cases h
def StepFl (step : Env → St → Option Out) : Prop := ∀ e st x e' st', step e st = some (x, e', st') → Fl st st'
theorem round_fl {live : List Nat} {tr : Bool} {step : Env → St → Option Out} (hs : StepFl step) : StepFl (round live tr step) := by
  intro e st x e' st' h
  unfold round at h
  simp only [Option.map_eq_some_iff] at h
  obtain ⟨⟨x1, e1, s1⟩, h1, h2⟩ := h
  have hf := hs _ _ _ _ _ h1
  unfold cutR at h2
  unfold enterR at hf
  cases tr with
  | false =>
    simp only [Bool.false_eq_true, if_false, Prod.mk.injEq] at h2 hf
    obtain ⟨_, _, rfl⟩ := h2
    exact hf
  | true =>
    simp only [if_true, Prod.mk.injEq] at h2 hf
    obtain ⟨_, _, rfl⟩ := h2
    refine ⟨rfl, rfl, Nat.le_refl _, ?_, fun _ _ _ => rfl, fun t h1 h2 => ?_⟩
    · have := hf.tlen
      simp only [List.length_take] at this ⊢
      omega
    · have := hf.tips t h1 h2
      simp only
      rw [List.getElem?_take, if_pos h2]
      exact this
theorem iter_fl {step : Env → St → Option Out} (hs : StepFl step) : ∀ n, StepFl (iter step n)
  | 0 => fun e st x e' st' h => by simp [iter] at h
  | n + 1 => fun e st x e' st' h => by
    unfold iter at h
    split at h
    · rename_i e1 s1 h1
      exact (hs _ _ _ _ _ h1).trans (iter_fl hs n _ _ _ _ _ h)
    · exact hs _ _ _ _ _ h
theorem codeS_fl {P : Prog} {call : CallF} (hc : CallFl call) (k : Nat) : ∀ c : SCode, StepFl (codeS P call k c)
  | .skip => fun e st x e' st' h => by
    simp only [codeS, Option.some.injEq, Prod.mk.injEq] at h
    exact h.2.2 ▸ Fl.refl _
  | .region ops d _ => fun e st x e' st' h => by
    simp only [codeS] at h
    split at h
    · rename_i h1
      simp only [Option.some.injEq, Prod.mk.injEq] at h
      obtain ⟨_, rfl, rfl⟩ := h
      exact opsS_fl hc h1
    · cases h
  | .seq a b => fun e st x e' st' h => by
    simp only [codeS] at h
    split at h
    · rename_i h1
      exact (codeS_fl hc k a _ _ _ _ _ h1).trans (codeS_fl hc k b _ _ _ _ _ h)
    · exact codeS_fl hc k a _ _ _ _ _ h
  | .cond c a b => fun e st x e' st' h => by
    simp only [codeS] at h
    split at h
    · exact codeS_fl hc k a _ _ _ _ _ h
    · exact codeS_fl hc k b _ _ _ _ _ h
    · cases h
  | .block id c => fun e st x e' st' h => by
    simp only [codeS] at h
    split at h
    · rename_i h1
      split at h
      · simp only [Option.some.injEq, Prod.mk.injEq] at h
        obtain ⟨_, rfl, rfl⟩ := h
        exact codeS_fl hc k c _ _ _ _ _ h1
      · simp only [Option.some.injEq, Prod.mk.injEq] at h
        obtain ⟨_, rfl, rfl⟩ := h
        exact codeS_fl hc k c _ _ _ _ _ h1
    · exact codeS_fl hc k c _ _ _ _ _ h
  | .loop live tr c => fun e st x e' st' h => by
    simp only [codeS] at h
    exact iter_fl (round_fl (codeS_fl hc k c)) k _ _ _ _ _ h
  | .exit id => fun e st x e' st' h => by
    simp only [codeS, Option.some.injEq, Prod.mk.injEq] at h
    exact h.2.2 ▸ Fl.refl _
  | .ret => fun e st x e' st' h => by
    simp only [codeS, Option.some.injEq, Prod.mk.injEq] at h
    exact h.2.2 ▸ Fl.refl _
theorem runF_fl {P : Prog} : ∀ k, CallFl (runF P k)
  | 0 => fun f args st v st' h => by simp [runF] at h
  | k + 1 => fun f args st v st' h => by
    simp only [runF] at h
    split at h
    · rename_i fn hfn
      split at h
      · unfold finish at h
        split at h
        · cases h
        · rename_i e1 s1 _ hr
          have hf := codeS_fl (runF_fl k) k fn.body _ _ _ _ _ hr
          split at h
          · split at h
            · simp only [Option.map_eq_some_iff, Prod.mk.injEq] at h
              obtain ⟨_, _, _, rfl⟩ := h
              exact Fl.refl _
            · rename_i hp
              simp only [Option.some.injEq, Prod.mk.injEq] at h
              obtain ⟨_, rfl⟩ := h
              simpa [start, hp] using hf
          · cases h
        · cases h
      · cases h
    · cases h

/-! ### The tie behind a cut -/
section
variable {P : Prog} {κ κ0 : K} {st st0 : St}
theorem RepC.keeps {x : V} {v : Value} (h : RepC κ0 x v) : keepsC κ0.ρ.length κ0.tk.length x := by
  cases x <;> simp only [keepsC]
  case own => obtain ⟨_, tok, h, _⟩ := h; exact (List.getElem?_eq_some_iff.1 h).1
  case ptr => obtain ⟨b, h, _⟩ := h; exact (List.getElem?_eq_some_iff.1 h).1
  case rsl => obtain ⟨b, o, h, _⟩ := h; exact (List.getElem?_eq_some_iff.1 h).1
  case map => obtain ⟨b, h, _⟩ := h; exact (List.getElem?_eq_some_iff.1 h).1
theorem RepC.cut {x : V} {v : Value} {h t : Nat} (hk : keepsC h t x) (hr : RepC κ x v) : RepC (κ.cut h t) x v := by
  cases x with
  | d d => exact RepD.mono K.imm_cut _ _ hr
  | own sz n nz cs k =>
    simp only [keepsC] at hk
    obtain ⟨h1, tok, h2, h3⟩ := hr
    exact ⟨RepD.mono K.imm_cut _ _ h1, tok, by show (κ.tk.take t)[k]? = _; rw [List.getElem?_take, if_pos hk]; exact h2, h3⟩
  | ptr id off =>
    simp only [keepsC] at hk
    obtain ⟨b, h1, h2⟩ := hr
    exact ⟨b, by show (κ.ρ.take h)[id]? = _; rw [List.getElem?_take, if_pos hk]; exact h1, h2⟩
  | ep cs =>
    obtain ⟨A, h1, h2⟩ := hr
    exact ⟨A, h1, h2.imp id fun ⟨b, o, h3, h4⟩ => ⟨b, o, h3, RepL.mono K.imm_cut _ _ _ h4⟩⟩
  | rsl size id off n cap =>
    simp only [keepsC] at hk
    obtain ⟨b, o, h1, h2⟩ := hr
    exact ⟨b, o, by show (κ.ρ.take h)[id]? = _; rw [List.getElem?_take, if_pos hk]; exact h1, h2⟩
  | map id =>
    simp only [keepsC] at hk
    obtain ⟨b, h1, h2⟩ := hr
    exact ⟨b, by show (κ.ρ.take h)[id]? = _; rw [List.getElem?_take, if_pos hk]; exact h1, h2⟩
  | agg => exact hr.elim
  | tup => exact hr.elim
  | un => exact hr.elim
theorem all_keeps {cs : List V} {l : List Value} (h : All2 (RepC κ0) cs l) : ∀ x ∈ cs, keepsC κ0.ρ.length κ0.tk.length x := by
  induction h with
  | nil => intro x hx; cases hx
  | cons h _ ih =>
    intro x hx
    cases hx with
    | head => exact h.keeps
    | tail _ hx => exact ih x hx
theorem all_cut {h t : Nat} {cs : List V} {l : List Value} (ha : All2 (RepC κ) cs l) (hk : ∀ x ∈ cs, keepsC h t x) : All2 (RepC (κ.cut h t)) cs l := by
  induction ha with
  | nil => exact .nil
  | cons h1 _ ih => exact .cons (h1.cut (hk _ List.mem_cons_self)) (ih fun x hx => hk x (List.mem_cons_of_mem _ hx))
def keeps1 (h t : Nat) (x : V) : Prop := match x with
  | .agg cs => ∀ x ∈ cs, keepsC h t x
  | x => keepsC h t x
theorem Rep1.keeps {x : V} {v : Value} (h : Rep1 κ0 x v) : keeps1 κ0.ρ.length κ0.tk.length x := by
  cases x with
  | agg cs => obtain ⟨l, _, h⟩ := h; exact all_keeps h
  | un => trivial
  | tup => exact h.elim
  | d => trivial
  | ep => trivial
  | own => exact RepC.keeps (Rep1.toC h (by simp) (by simp))
  | ptr => exact RepC.keeps (Rep1.toC h (by simp) (by simp))
  | rsl => exact RepC.keeps (Rep1.toC h (by simp) (by simp))
  | map => exact RepC.keeps (Rep1.toC h (by simp) (by simp))
theorem Rep1.cut {x : V} {v : Value} {h t : Nat} (hk : keeps1 h t x) (hr : Rep1 κ x v) : Rep1 (κ.cut h t) x v := by
  cases x with
  | agg cs => obtain ⟨l, h1, h2⟩ := hr; exact ⟨l, h1, all_cut h2 hk⟩
  | un => exact hr
  | tup => exact hr.elim
  | d => exact Rep1.ofC (RepC.cut (x := .d _) trivial hr)
  | ep => exact Rep1.ofC (RepC.cut (x := .ep _) trivial hr)
  | own => exact Rep1.ofC (RepC.cut hk (Rep1.toC hr (by simp) (by simp)))
  | ptr => exact Rep1.ofC (RepC.cut hk (Rep1.toC hr (by simp) (by simp)))
  | rsl => exact Rep1.ofC (RepC.cut hk (Rep1.toC hr (by simp) (by simp)))
  | map => exact Rep1.ofC (RepC.cut hk (Rep1.toC hr (by simp) (by simp)))
theorem ents_cut {es : List (D × V)} {l l0 : List MapEntry} {h t : Nat} (h0 : All2 (RepE κ0) es l0) (ha : All2 (RepE κ) es l) (hh : κ0.ρ.length = h) (ht : κ0.tk.length = t) : All2 (RepE (κ.cut h t)) es l := by
  subst hh
  subst ht
  induction ha generalizing l0 with
  | nil => exact .nil
  | cons h1 _ ih =>
    cases h0 with
    | cons k1 k2 => exact .cons ⟨RepD.mono K.imm_cut _ _ h1.1, Rep1.cut k1.2.keeps h1.2⟩ (ih k2)
theorem Inv.cut (h0 : Inv P κ0 st0) (hle : κ0.le κ) (hi : Inv P κ st) (hh : st.heap.take st0.heap.length = st0.heap) {f tf : Nat} :
    κ0.le (κ.cut st0.heap.length st0.tips.length) ∧ Inv P (κ.cut st0.heap.length st0.tips.length) { heap := st0.heap, tips := st.tips.take st0.tips.length, floor := f, tfloor := tf } := by
  have hl := h0.len
  have ht : κ0.tk.length = st0.tips.length := by rw [h0.tips]; simp
  have hrow : ∀ id, St.row { heap := st0.heap, tips := st.tips.take st0.tips.length, floor := f, tfloor := tf } id = st0.row id := fun _ => rfl
  have hmap : ∀ id, St.mapOf { heap := st0.heap, tips := st.tips.take st0.tips.length, floor := f, tfloor := tf } id = st0.mapOf id := fun _ => rfl
  have hget : ∀ id, id < st0.heap.length → st.heap[id]? = st0.heap[id]? := fun id h => by
    have : (st.heap.take st0.heap.length)[id]? = st0.heap[id]? := by rw [hh]
    rwa [List.getElem?_take, if_pos h] at this
  have hρ : ∀ i b, (κ.ρ.take st0.heap.length)[i]? = some b → i < st0.heap.length ∧ κ.ρ[i]? = some b := fun i b h => take_get h
  refine ⟨K.le_cut hle (by omega) (by omega) (fun i b h => (hi.ρb i b h).1), ⟨hi.below, ?_, ?_, ?_, ?_, ?_, ?_, ?_, ?_, fun b o h => hi.muts b o h.1, fun n c h => RepL.mono K.imm_cut _ _ _ (hi.globs n c h)⟩⟩
  · show (κ.ρ.take _).length = st0.heap.length
    have : st0.heap.length ≤ st.heap.length := by
      have := congrArg List.length hh
      simp only [List.length_take] at this
      omega
    rw [List.length_take, hi.len]
    omega
  · show st.tips.take _ = (κ.tk.take _).map _
    rw [hi.tips, List.map_take]
  · intro i j b h1 h2
    exact hi.nd i j b (hρ _ _ h1).2 (hρ _ _ h2).2
  · intro i b h
    exact hi.ρb i b (hρ _ _ h).2
  · intro id cs h
    rw [hrow] at h
    have hlt := St.row_lt h
    have h' : st.row id = some cs := by unfold St.row at h ⊢; rw [hget id hlt]; exact h
    obtain ⟨b, arr, e, h1, h2, h3, h4⟩ := hi.rows id cs h'
    obtain ⟨b0, arr0, e0, k1, k2, k3, k4⟩ := h0.rows id cs h
    refine ⟨b, arr, e, ?_, h2, all_cut h3 ?_, fun o => ⟨h4 o, fun i hge hib => ?_⟩⟩
    · show (κ.ρ.take _)[id]? = _
      rw [List.getElem?_take, if_pos hlt]
      exact h1
    · have := all_keeps k3
      rw [hl, ht] at this
      exact this
    · have := hi.nd _ _ _ h1 hib
      omega
  · intro id es h
    rw [hmap] at h
    have hlt := St.mapOf_lt h
    have h' : st.mapOf id = some es := by unfold St.mapOf at h ⊢; rw [hget id hlt]; exact h
    obtain ⟨b, arr, c, h1, h2, h3⟩ := hi.maps id es h'
    obtain ⟨b0, arr0, c0, k1, k2, k3⟩ := h0.maps id es h
    refine ⟨b, arr, c, ?_, h2, ents_cut k3 h3 hl ht⟩
    show (κ.ρ.take _)[id]? = _
    rw [List.getElem?_take, if_pos hlt]
    exact h1
  · intro t tok h
    obtain ⟨_, h⟩ := take_get h
    obtain ⟨h1, h2⟩ := hi.toks t tok h
    refine ⟨h1, fun g hg => ⟨fun i hib => (h2 g hg).1 i (hρ _ _ hib).2, fun o ho => ⟨(h2 g hg).2 o ho, fun i _ hib => (h2 g hg).1 i hib⟩⟩⟩
  · intro t t' tok tok' g h1 h2
    exact hi.tdis t t' tok tok' g (take_get h1).2 (take_get h2).2
theorem Inv.floor (hi : Inv P κ st) {f tf : Nat} : Inv P κ { st with floor := f, tfloor := tf } :=
  ⟨hi.below, hi.len, hi.tips, hi.nd, hi.ρb, hi.rows, hi.maps, hi.toks, hi.tdis, hi.muts, hi.globs⟩
end
end Go.Sh
