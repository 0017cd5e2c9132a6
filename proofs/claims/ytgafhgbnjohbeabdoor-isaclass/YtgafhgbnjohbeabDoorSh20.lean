/- Runs without fuel: what a run comes to, and its equations. -/
import Derived.Test.YtgafhgbnjohbeabDoorSh19
set_option linter.unusedVariables false
set_option linter.unusedSimpArgs false
namespace Go.Sh

def CallF.le (f g : CallF) : Prop := ∀ a b c r, f a b c = some r → g a b c = some r
def OLe {α : Type} (x y : Option α) : Prop := ∀ r, x = some r → y = some r
theorem opS_mono {P : Prog} {f g : CallF} (h : f.le g) {e : Env} {st : St} {o : SOp} {r : V × St} (hr : opS P f e st o = some r) : opS P g e st o = some r := by
  cases o <;> simp only [opS] at hr ⊢ <;> try exact hr
  · split at hr
    · exact h _ _ _ _ hr
    · cases hr
  · obtain ⟨v, hv, hr⟩ := bind1_some hr
    rw [hv]
    simp only [bind1]
    split at hr
    · split at hr
      · exact h _ _ _ _ hr
      · cases hr
    · cases hr
theorem opsS_mono {P : Prog} {f g : CallF} (h : f.le g) {all : List SOper} : ∀ {l : List SOper} {e : Env} {st : St} {r : Env × St}, opsS P f all l e st = some r → opsS P g all l e st = some r
  | [], e, st, r, hr => hr
  | o :: l, e, st, r, hr => by
    simp only [opsS] at hr ⊢
    split at hr
    · split at hr
      · rename_i ho
        rw [opS_mono h ho]
        exact opsS_mono h hr
      · cases hr
    · exact opsS_mono h hr
    · cases hr
theorem round_mono {live : List Nat} {tr : Bool} {s s' : Env → St → Option Out} (h : ∀ e st r, s e st = some r → s' e st = some r) {e : Env} {st : St} {r : Out} (hr : round live tr s e st = some r) : round live tr s' e st = some r := by
  unfold round at hr ⊢
  simp only [Option.map_eq_some_iff] at hr ⊢
  obtain ⟨x, h1, h2⟩ := hr
  exact ⟨x, h _ _ _ h1, h2⟩
theorem iter_mono {s s' : Env → St → Option Out} (h : ∀ e st r, s e st = some r → s' e st = some r) : ∀ {k k' : Nat}, k ≤ k' → ∀ {e : Env} {st : St} {r : Out}, iter s k e st = some r → iter s' k' e st = some r
  | 0, _, _, e, st, r, hr => by simp [iter] at hr
  | k + 1, 0, hk, _, _, _, _ => by omega
  | k + 1, k' + 1, hk, e, st, r, hr => by
    unfold iter at hr ⊢
    split at hr
    · rename_i h1
      rw [h _ _ _ h1]
      exact iter_mono h (by omega) hr
    · rename_i hno
      rw [h _ _ _ hr]
      obtain ⟨x, e1, s1⟩ := r
      cases x with
      | normal => exact (hno _ _ hr).elim
      | exit i => rfl
      | ret => rfl
theorem codeS_mono {P : Prog} {f g : CallF} (h : f.le g) {k k' : Nat} (hk : k ≤ k') : ∀ (c : SCode) {e : Env} {st : St} {r : Out}, codeS P f k c e st = some r → codeS P g k' c e st = some r
  | .skip, e, st, r, hr => hr
  | .region ops d _, e, st, r, hr => by
    simp only [codeS] at hr ⊢
    split at hr
    · rename_i h1
      rw [opsS_mono h h1]
      exact hr
    · cases hr
  | .seq a b, e, st, r, hr => by
    simp only [codeS] at hr ⊢
    split at hr
    · rename_i h1
      rw [codeS_mono h hk a h1]
      exact codeS_mono h hk b hr
    · rename_i hno
      rw [codeS_mono h hk a hr]
      obtain ⟨x, e1, s1⟩ := r
      cases x with
      | normal => exact (hno _ _ hr).elim
      | exit i => rfl
      | ret => rfl
  | .cond c a b, e, st, r, hr => by
    simp only [codeS] at hr ⊢
    split at hr
    · rename_i hc
      exact codeS_mono h hk a hr
    · rename_i hc
      exact codeS_mono h hk b hr
    · cases hr
  | .block i c, e, st, r, hr => by
    simp only [codeS] at hr ⊢
    split at hr
    · rename_i h1
      rw [codeS_mono h hk c h1]
      exact hr
    · rename_i hno
      rw [codeS_mono h hk c hr]
      obtain ⟨x, e1, s1⟩ := r
      cases x with
      | normal => rfl
      | exit i => exact (hno _ _ _ hr).elim
      | ret => rfl
  | .loop live tr c, e, st, r, hr => by
    simp only [codeS] at hr ⊢
    exact iter_mono (fun e st r h1 => round_mono (fun e st r h2 => codeS_mono h hk c h2) h1) hk hr
  | .exit i, e, st, r, hr => hr
  | .ret, e, st, r, hr => hr
theorem runF_succ {P : Prog} : ∀ k, (runF P k).le (runF P (k + 1))
  | 0 => fun f args st r h => by simp [runF] at h
  | k + 1 => fun f args st r h => by
    rw [runF] at h ⊢
    split at h
    · split at h
      · rename_i hl
        rw [if_pos hl]
        generalize hc : codeS P (runF P k) k _ _ _ = x at h
        cases x with
        | none => simp [finish] at h
        | some x =>
          rw [codeS_mono (runF_succ k) (Nat.le_succ k) _ hc]
          exact h
      · cases h
    · cases h
theorem runF_mono {P : Prog} {k k' : Nat} (h : k ≤ k') : (runF P k).le (runF P k') := by
  induction h with
  | refl => exact fun _ _ _ _ h => h
  | step _ ih => exact fun a b c r h => runF_succ _ _ _ _ _ (ih _ _ _ _ h)

open Classical in
noncomputable def lim {α : Type} (F : Nat → Option α) : Option α := if h : ∃ k r, F k = some r then F h.choose else none
theorem lim_iff {α : Type} {F : Nat → Option α} (hm : ∀ k k', k ≤ k' → OLe (F k) (F k')) {r : α} : lim F = some r ↔ ∃ k, F k = some r := by
  unfold lim
  constructor
  · intro h
    split at h
    · exact ⟨_, h⟩
    · cases h
  · rintro ⟨k, hk⟩
    have hex : ∃ k r, F k = some r := ⟨k, r, hk⟩
    rw [dif_pos hex]
    obtain ⟨r', hr'⟩ := hex.choose_spec
    have h1 := hm _ (max k hex.choose) (Nat.le_max_left _ _) _ hk
    have h2 := hm _ (max k hex.choose) (Nat.le_max_right _ _) _ hr'
    rw [h1] at h2
    rw [hr', Option.some.inj h2]
/-- What a call comes to. -/
noncomputable def den (P : Prog) : CallF := fun f args st => lim fun k => runF P k f args st
/-- What code comes to. -/
noncomputable def cden (P : Prog) (c : SCode) (e : Env) (st : St) : Option Out := lim fun k => codeS P (runF P k) k c e st
section
variable {P : Prog}
theorem den_iff {f : Nat} {args : List V} {st : St} {r : V × St} : den P f args st = some r ↔ ∃ k, runF P k f args st = some r := lim_iff fun _ _ h r => runF_mono h _ _ _ r
theorem cden_iff {c : SCode} {e : Env} {st : St} {r : Out} : cden P c e st = some r ↔ ∃ k, codeS P (runF P k) k c e st = some r := lim_iff fun _ _ h r => codeS_mono (runF_mono h) h c
theorem runF_den (k : Nat) : (runF P k).le (den P) := fun _ _ _ _ h => den_iff.2 ⟨k, h⟩
theorem den_runF {e : Env} {st : St} {o : SOp} {r : V × St} (h : opS P (den P) e st o = some r) : ∃ k, opS P (runF P k) e st o = some r := by
  cases o <;> simp only [opS] at h ⊢ <;> try exact ⟨0, h⟩
  · split at h
    · exact den_iff.1 h
    · cases h
  · obtain ⟨v, hv, h⟩ := bind1_some h
    rw [hv]
    simp only [bind1]
    split at h
    · split at h
      · exact den_iff.1 h
      · cases h
    · cases h
theorem dens_runF {all : List SOper} : ∀ {l : List SOper} {e : Env} {st : St} {r : Env × St}, opsS P (den P) all l e st = some r → ∃ k, opsS P (runF P k) all l e st = some r
  | [], e, st, r, h => ⟨0, h⟩
  | o :: l, e, st, r, h => by
    simp only [opsS] at h ⊢
    split at h
    · split at h
      · rename_i ho
        obtain ⟨k1, h1⟩ := den_runF ho
        obtain ⟨k2, h2⟩ := dens_runF h
        refine ⟨max k1 k2, ?_⟩
        rw [opS_mono (runF_mono (Nat.le_max_left _ _)) h1]
        exact opsS_mono (runF_mono (Nat.le_max_right _ _)) h2
      · cases h
    · exact dens_runF h
    · cases h
theorem opt_ext {α : Type} {x y : Option α} (h : ∀ r, x = some r ↔ y = some r) : x = y := Option.ext fun r => by simpa [Option.mem_def] using h r
theorem cden_skip {e : Env} {st : St} : cden P .skip e st = some (.normal, e, st) := cden_iff.2 ⟨0, rfl⟩
theorem cden_exit {i : Nat} {e : Env} {st : St} : cden P (.exit i) e st = some (.exit i, e, st) := cden_iff.2 ⟨0, rfl⟩
theorem cden_ret {e : Env} {st : St} : cden P .ret e st = some (.ret, e, st) := cden_iff.2 ⟨0, rfl⟩
theorem cden_region {ops : List SOper} {d : Bool} {B : List Nat} {e : Env} {st : St} : cden P (.region ops d B) e st = match opsS P (den P) ops ops e st with
    | some (e', st') => some (.normal, e', st')
    | none => none := by
  refine opt_ext fun r => ?_
  rw [cden_iff]
  constructor
  · rintro ⟨k, h⟩
    simp only [codeS] at h
    split at h
    · rename_i h1
      rw [opsS_mono (runF_den k) h1]
      exact h
    · cases h
  · intro h
    split at h
    · rename_i h1
      obtain ⟨k, h1⟩ := dens_runF h1
      refine ⟨k, ?_⟩
      simp only [codeS, h1]
      exact h
    · cases h
theorem cden_seq {a b : SCode} {e : Env} {st : St} : cden P (.seq a b) e st = match cden P a e st with
    | some (.normal, e', st') => cden P b e' st'
    | r => r := by
  refine opt_ext fun r => ?_
  rw [cden_iff]
  constructor
  · rintro ⟨k, h⟩
    simp only [codeS] at h
    split at h
    · rename_i h1
      rw [cden_iff.2 ⟨k, h1⟩]
      exact cden_iff.2 ⟨k, h⟩
    · rename_i hno
      rw [cden_iff.2 ⟨k, h⟩]
      obtain ⟨x, e1, s1⟩ := r
      cases x with
      | normal => exact (hno _ _ h).elim
      | exit i => rfl
      | ret => rfl
  · intro h
    split at h
    · rename_i h1
      obtain ⟨k1, h1⟩ := cden_iff.1 h1
      obtain ⟨k2, h2⟩ := cden_iff.1 h
      refine ⟨max k1 k2, ?_⟩
      simp only [codeS]
      rw [codeS_mono (runF_mono (Nat.le_max_left _ _)) (Nat.le_max_left _ _) a h1]
      exact codeS_mono (runF_mono (Nat.le_max_right _ _)) (Nat.le_max_right _ _) b h2
    · rename_i hno
      obtain ⟨k1, h1⟩ := cden_iff.1 h
      refine ⟨k1, ?_⟩
      simp only [codeS]
      rw [h1]
      obtain ⟨x, e1, s1⟩ := r
      cases x with
      | normal => exact (hno _ _ h).elim
      | exit i => rfl
      | ret => rfl
theorem cden_cond {c : Opd} {a b : SCode} {e : Env} {st : St} : cden P (.cond c a b) e st = match c.ev P e with
    | some (.d (.b true)) => cden P a e st
    | some (.d (.b false)) => cden P b e st
    | _ => none := by
  refine opt_ext fun r => ?_
  rw [cden_iff]
  constructor
  · rintro ⟨k, h⟩
    simp only [codeS] at h
    split at h
    · rename_i hc
      rw [hc]
      exact cden_iff.2 ⟨k, h⟩
    · rename_i hc
      rw [hc]
      exact cden_iff.2 ⟨k, h⟩
    · cases h
  · intro h
    split at h
    · rename_i hc
      obtain ⟨k, h⟩ := cden_iff.1 h
      exact ⟨k, by simp only [codeS, hc]; exact h⟩
    · rename_i hc
      obtain ⟨k, h⟩ := cden_iff.1 h
      exact ⟨k, by simp only [codeS, hc]; exact h⟩
    · cases h
theorem cden_block {i : Nat} {c : SCode} {e : Env} {st : St} : cden P (.block i c) e st = match cden P c e st with
    | some (.exit j, e', st') => if j = i then some (.normal, e', st') else some (.exit j, e', st')
    | r => r := by
  refine opt_ext fun r => ?_
  rw [cden_iff]
  constructor
  · rintro ⟨k, h⟩
    simp only [codeS] at h
    split at h
    · rename_i h1
      rw [cden_iff.2 ⟨k, h1⟩]
      exact h
    · rename_i hno
      rw [cden_iff.2 ⟨k, h⟩]
      obtain ⟨x, e1, s1⟩ := r
      cases x with
      | normal => rfl
      | exit i => exact (hno _ _ _ h).elim
      | ret => rfl
  · intro h
    split at h
    · rename_i h1
      obtain ⟨k, h1⟩ := cden_iff.1 h1
      exact ⟨k, by simp only [codeS, h1]; exact h⟩
    · rename_i hno
      obtain ⟨k, h1⟩ := cden_iff.1 h
      refine ⟨k, ?_⟩
      simp only [codeS]
      rw [h1]
      obtain ⟨x, e1, s1⟩ := r
      cases x with
      | normal => rfl
      | exit i => exact (hno _ _ _ h).elim
      | ret => rfl
theorem cden_loop {live : List Nat} {tr : Bool} {c : SCode} {e : Env} {st : St} : cden P (.loop live tr c) e st = match round live tr (cden P c) e st with
    | some (.normal, e', st') => cden P (.loop live tr c) e' st'
    | r => r := by
  refine opt_ext fun r => ?_
  rw [cden_iff]
  have toden : ∀ k {e st r}, round live tr (codeS P (runF P k) k c) e st = some r → round live tr (cden P c) e st = some r := fun k e st r h => round_mono (fun e st r h => cden_iff.2 ⟨k, h⟩) h
  have ofden : ∀ {e st r}, round live tr (cden P c) e st = some r → ∃ k, round live tr (codeS P (runF P k) k c) e st = some r := by
    intro e st r h
    unfold round at h ⊢
    simp only [Option.map_eq_some_iff] at h ⊢
    obtain ⟨x, h1, h2⟩ := h
    obtain ⟨k, h1⟩ := cden_iff.1 h1
    exact ⟨k, x, h1, h2⟩
  constructor
  · rintro ⟨k, h⟩
    simp only [codeS] at h
    cases k with
    | zero => simp [iter] at h
    | succ k =>
      rw [iter] at h
      split at h
      · rename_i h1
        rw [toden _ h1]
        simp only
        refine cden_iff.2 ⟨k + 1, ?_⟩
        simp only [codeS]
        exact iter_mono (fun _ _ _ h => h) (Nat.le_succ k) h
      · rename_i hno
        rw [toden _ h]
        obtain ⟨x, e1, s1⟩ := r
        cases x with
        | normal => exact (hno _ _ h).elim
        | exit i => rfl
        | ret => rfl
  · intro h
    split at h
    · rename_i h1
      obtain ⟨k1, h1⟩ := ofden h1
      obtain ⟨k2, h2⟩ := cden_iff.1 h
      simp only [codeS] at h2
      refine ⟨max k1 k2 + 1, ?_⟩
      simp only [codeS]
      have up : ∀ k, k ≤ max k1 k2 → ∀ e st r, round live tr (codeS P (runF P k) k c) e st = some r → round live tr (codeS P (runF P (max k1 k2 + 1)) (max k1 k2 + 1) c) e st = some r := fun k hk e st r h =>
        round_mono (fun e st r h => codeS_mono (runF_mono (Nat.le_succ_of_le hk)) (Nat.le_succ_of_le hk) c h) h
      rw [iter, up k1 (Nat.le_max_left _ _) _ _ _ h1]
      exact iter_mono (fun e st r h => up k2 (Nat.le_max_right _ _) e st r h) (Nat.le_max_right _ _) h2
    · rename_i hno
      obtain ⟨k1, h1⟩ := ofden h
      refine ⟨k1 + 1, ?_⟩
      simp only [codeS]
      rw [iter, round_mono (fun e st r h => codeS_mono (runF_mono (Nat.le_succ k1)) (Nat.le_succ k1) c h) h1]
      obtain ⟨x, e1, s1⟩ := r
      cases x with
      | normal => exact (hno _ _ h).elim
      | exit i => rfl
      | ret => rfl
theorem den_fn {f : Nat} {args : List V} {st : St} {fn : SFn} (hf : P.fn f = some fn) (hn : args.length = fn.nparams) : den P f args st = finish fn st (cden P fn.body (initE 0 args) (start fn st)) := by
  refine opt_ext fun r => ?_
  rw [den_iff]
  constructor
  · rintro ⟨k, h⟩
    cases k with
    | zero => simp [runF] at h
    | succ k =>
      rw [runF, hf] at h
      simp only [hn, if_true] at h
      generalize hc : codeS P (runF P k) k _ _ _ = x at h
      cases x with
      | none => simp [finish] at h
      | some x =>
        rw [cden_iff.2 ⟨k, hc⟩]
        exact h
  · intro h
    generalize hc : cden P fn.body _ _ = x at h
    cases x with
    | none => simp [finish] at h
    | some x =>
      obtain ⟨k, hk⟩ := cden_iff.1 hc
      refine ⟨k + 1, ?_⟩
      rw [runF, hf]
      simp only [hn, if_true]
      rw [hk]
      exact h
end
end Go.Sh
