/- A call on data alone may be run on an empty state: what it comes to there it comes to anywhere. -/
import Derived.Test.YtgafhgbnjohbeabDoorSh28
set_option linter.unusedVariables false
set_option linter.unusedSimpArgs false
namespace Go.Sh
open Go.RowKit
theorem flat_repC {κ κ' : K} (hL : κ'.L = κ.L) (hi : ∀ b o x, κ.imm b o x → κ'.imm b o x) (hρ : κ.ρ = []) (ht : κ.tk = []) : ∀ {x : V} {v : Value}, RepC κ x v → RepC κ' x v
  | .d x, v, h => by
    simp only [RepC] at h ⊢
    rw [hL]
    exact RepD.mono hi _ _ h
  | .own .., v, h => by
    obtain ⟨_, tok, h, _⟩ := h
    rw [ht] at h
    simp at h
  | .ptr .., v, h => by
    obtain ⟨b, h, _⟩ := h
    rw [hρ] at h
    simp at h
  | .ep cs, v, h => by
    obtain ⟨A, h1, h2⟩ := h
    exact ⟨A, h1, h2.imp id fun ⟨b, o, h3, h4⟩ => ⟨b, o, h3, by rw [hL]; exact RepL.mono hi _ _ _ h4⟩⟩
  | .rsl _ _ _ _ _, v, h => by
    obtain ⟨b, o, h, _⟩ := h
    rw [hρ] at h
    simp at h
  | .map _, v, h => by
    obtain ⟨b, h, _⟩ := h
    rw [hρ] at h
    simp at h
  | .agg _, _, h => h
  | .tup _, _, h => h
  | .un, _, h => h
theorem flat_rep1 {κ κ' : K} (hL : κ'.L = κ.L) (hi : ∀ b o x, κ.imm b o x → κ'.imm b o x) (hρ : κ.ρ = []) (ht : κ.tk = []) {x : V} {v : Value} (h : Rep1 κ x v) : Rep1 κ' x v := by
  cases x with
  | agg cs => obtain ⟨l, h1, h2⟩ := h; exact ⟨l, h1, h2.mono fun _ _ => flat_repC hL hi hρ ht⟩
  | un => exact h
  | tup vs => exact h.elim
  | d y => exact Rep1.ofC (flat_repC hL hi hρ ht (x := .d y) h)
  | own s n nz cs t => exact Rep1.ofC (flat_repC hL hi hρ ht (x := .own s n nz cs t) h)
  | ptr i o => exact Rep1.ofC (flat_repC hL hi hρ ht (x := .ptr i o) h)
  | ep cs => exact Rep1.ofC (flat_repC hL hi hρ ht (x := .ep cs) h)
  | rsl s i o n c => exact Rep1.ofC (flat_repC hL hi hρ ht (x := .rsl s i o n c) h)
  | map i => exact Rep1.ofC (flat_repC hL hi hρ ht (x := .map i) h)
theorem flat_rep {κ κ' : K} (hL : κ'.L = κ.L) (hi : ∀ b o x, κ.imm b o x → κ'.imm b o x) (hρ : κ.ρ = []) (ht : κ.tk = []) {x : V} {v : Value} (h : Rep κ x v) : Rep κ' x v := by
  by_cases hx : ∃ vs, x = .tup vs
  · obtain ⟨vs, rfl⟩ := hx
    obtain ⟨l, h1, h2⟩ := h
    exact ⟨l, h1, h2.mono fun _ _ => flat_rep1 hL hi hρ ht⟩
  · exact Rep.of1 (flat_rep1 hL hi hρ ht (Rep.to1 h fun vs e => hx ⟨vs, e⟩))
theorem data_args {κ κ' : K} (hL : κ'.L = κ.L) (hi : ∀ b o x, κ.imm b o x → κ'.imm b o x) : ∀ {xs : List D} {vals : List Value}, All2 (Rep κ) (ofDs xs) vals → All2 (Rep κ') (ofDs xs) vals
  | [], _, h => by cases h; exact .nil
  | x :: xs, _, h => by
    cases h with
    | cons h1 h2 =>
      refine .cons ?_ (data_args hL hi h2)
      have h1 : RepD κ.L κ.imm x _ := h1
      show RepD κ'.L κ'.imm x _
      rw [hL]
      exact RepD.mono hi _ _ h1
theorem CallW.of_empty {Pr : Prog} {f : Nat} {xs : List D} {st : St} {Q : V → St → Prop} (h : ∃ k r s' z, runF Pr k f (ofDs xs) st0 = some (r, s') ∧ esc s' 0 0 r = some z ∧ Q z st) : CallW Pr f (ofDs xs) st Q := by
  obtain ⟨k, r, s', z, h, hz, hQ⟩ := h
  intro P L ht κ vals hL hi ha
  subst hL
  let κ0 : K := { L := κ.L, w0 := κ.w, w := κ.w, wr := κ.wr, ρ := [], tk := [] }
  have hi0 : Inv Pr κ0 st0 := ⟨Below.refl _ _, rfl, rfl, fun i j b h => by simp [κ0] at h, fun i b h => by simp [κ0] at h, fun id cs h => by simp [St.row, st0] at h, fun id cs h => by simp [St.mapOf, st0] at h, fun t tok h => by simp [κ0] at h,
    fun t t' tok tok' g h => by simp [κ0] at h, hi.muts, hi.globs⟩
  have ha0 : All2 (Rep κ0) (ofDs xs) vals := data_args (κ := κ) (κ' := κ0) rfl (fun _ _ _ h => h) ha
  refine (runF_sound ht.m ht.t k κ0 st0 f (ofDs xs) vals r s' rfl hi0 ha0 h).mono ?_
  rintro e w' ⟨κ', v, rfl, rfl, h1, h2, h3⟩
  obtain ⟨m1, m2⟩ := Inv.cut (f := 0) (tf := 0) hi0 h1 h2 (by simp [st0])
  have hrep : Rep (κ'.cut 0 0) z v := escT_rep h2 hz h3
  have hb : Below κ.w.heap.size κ.w κ'.w := by
    have := h2.below
    rw [h1.w0] at this
    exact this
  have hg : κ.w.grownBy κ'.w none := ⟨hb.os, hb.tape, hb.output, hb.size, fun k hk _ => hb.block k hk⟩
  obtain ⟨g1, g2⟩ := hi.grow hg
  refine ⟨κ.to κ'.w, v, z, st, rfl, rfl, g1, g2, ?_, Fl.refl _, hQ⟩
  refine flat_rep (κ := κ'.cut 0 0) (κ' := κ.to κ'.w) (by show κ.L = κ'.L; rw [h1.L]) (fun b o x hx => ⟨hx.1, fun hw => hx.2 ?_⟩) (by show κ'.ρ.take 0 = []; simp) (by show κ'.tk.take 0 = []; simp) hrep
  exact m1.wr b o (hi.muts b o hw) hw
theorem flat_get {κ κ' : K} (hL : κ'.L = κ.L) (hi : ∀ b o x, κ.imm b o x → κ'.imm b o x) (hρ : κ.ρ = []) (ht : κ.tk = []) {e : Env} {a : Act} (h : ERel κ e a) : ERel κ' e a := fun i v hv => ⟨(h i v hv).1, flat_rep hL hi hρ ht (h i v hv).2⟩
/-- Code that looks at data alone may be run on an empty state. -/
theorem CodeW.of_empty {Pr : Prog} {c : SCode} {e : Env} {st : St} {Q : Out → Prop} (e0 : List (Nat × D)) (he : ∀ i x, (i, x) ∈ e0 → e.get i = some (.d x))
    (h : ∃ k x e' s', codeS Pr (runF Pr k) k c (e0.map fun p => (p.1, .d p.2)) st0 = some (x, e', s') ∧ Q (x, escEnv s' 0 0 e', st)) : CodeW Pr c e st Q := by
  obtain ⟨k, x, e', s', h, hQ⟩ := h
  intro P L ht n code hok κ a R hL hi hE hn hR
  subst hL
  let κ0 : K := { L := κ.L, w0 := κ.w, w := κ.w, wr := κ.wr, ρ := [], tk := [] }
  have hi0 : Inv Pr κ0 st0 := ⟨Below.refl _ _, rfl, rfl, fun i j b h => by simp [κ0] at h, fun i b h => by simp [κ0] at h, fun id cs h => by simp [St.row, st0] at h, fun id cs h => by simp [St.mapOf, st0] at h, fun t tok h => by simp [κ0] at h,
    fun t t' tok tok' g h => by simp [κ0] at h, hi.muts, hi.globs⟩
  have hget : ∀ {l : List (Nat × D)} {i : Nat} {v : V}, Env.get (l.map fun p => (p.1, V.d p.2)) i = some v → ∃ x, (i, x) ∈ l ∧ v = .d x := by
    intro l
    induction l with
    | nil => intro i v h; simp [Env.get] at h
    | cons p r ih =>
      intro i v h
      simp only [List.map_cons, Env.get] at h
      split at h
      · rename_i hp
        simp only [Option.some.injEq] at h
        exact ⟨p.2, by rw [← hp]; exact List.mem_cons_self, h.symm⟩
      · obtain ⟨x, h1, h2⟩ := ih h
        exact ⟨x, List.mem_cons_of_mem _ h1, h2⟩
  have hE0 : ERel κ0 (e0.map fun p => (p.1, .d p.2)) a := by
    intro i v hv
    obtain ⟨x, hx, rfl⟩ := hget hv
    obtain ⟨h1, h2⟩ := hE i _ (he i x hx)
    exact ⟨h1, h2⟩
  refine code_sound (runF_sound ht.m ht.t k) (runF_pure k) (runF_fl k) ht.m c (κ := κ0) rfl hok hi0 hE0 hn h ?_
  intro κ' a' h1 h2 h3 h4 h5
  obtain ⟨m1, m2⟩ := Inv.cut (f := 0) (tf := 0) hi0 h1 h2 (by simp [st0])
  have hb : Below κ.w.heap.size κ.w κ'.w := by
    have := h2.below
    rw [h1.w0] at this
    exact this
  have hg : κ.w.grownBy κ'.w none := ⟨hb.os, hb.tape, hb.output, hb.size, fun k hk _ => hb.block k hk⟩
  obtain ⟨g1, g2⟩ := hi.grow hg
  have hrel : ERel (κ'.cut 0 0) (escEnv s' 0 0 e') a' := by
    intro i v hv
    obtain ⟨u, hu, hv⟩ := escEnv_get hv
    obtain ⟨q1, q2⟩ := h3 i u hu
    exact ⟨q1, Rep.of1 (esc1_rep h2 hv (Rep.to1 q2 (esc1_tup hv)))⟩
  refine hR (x, escEnv s' 0 0 e', st) (κ.to κ'.w) a' hQ (Fl.refl _) g1 g2 ?_ h4 h5
  exact flat_get (κ := κ'.cut 0 0) (κ' := κ.to κ'.w) (by show κ.L = κ'.L; rw [h1.L]) (fun b o x hx => ⟨hx.1, fun hw => hx.2 (m1.wr b o (hi.muts b o hw) hw)⟩) (by show κ'.ρ.take 0 = []; simp) (by show κ'.tk.take 0 = []; simp) hrel

mutual
/-- Are two data the same? -/
def D.same : D → D → Bool
  | .i k n, .i k' m => decide (k = k') && decide (n = m)
  | .b p, .b q => p == q
  | .s p, .s q => p == q
  | .np, .np => true
  | .nm, .nm => true
  | .ni, .ni => true
  | .nf, .nf => true
  | .sl n z cs, .sl m y ds => n == m && (z == y && D.sames cs ds)
  | .ifc t p cs, .ifc u q ds => t == u && (p == q && D.sames cs ds)
  | _, _ => false
def D.sames : List D → List D → Bool
  | [], [] => true
  | x :: xs, y :: ys => D.same x y && D.sames xs ys
  | _, _ => false
end
mutual
theorem D.same_eq : ∀ {x y : D}, D.same x y = true → x = y
  | .i k n, y, h => by cases y <;> simp [D.same] at h ⊢; exact h
  | .b p, y, h => by cases y <;> simp [D.same] at h ⊢; exact h
  | .s p, y, h => by cases y <;> simp [D.same] at h ⊢; exact h
  | .np, y, h => by cases y <;> simp [D.same] at h ⊢
  | .nm, y, h => by cases y <;> simp [D.same] at h ⊢
  | .ni, y, h => by cases y <;> simp [D.same] at h ⊢
  | .nf, y, h => by cases y <;> simp [D.same] at h ⊢
  | .sl n z cs, y, h => by
    cases y <;> simp [D.same] at h ⊢
    exact ⟨h.1, h.2.1, D.sames_eq h.2.2⟩
  | .ifc t p cs, y, h => by
    cases y <;> simp [D.same] at h ⊢
    exact ⟨h.1, h.2.1, D.sames_eq h.2.2⟩
theorem D.sames_eq : ∀ {xs ys : List D}, D.sames xs ys = true → xs = ys
  | [], ys, h => by cases ys <;> simp [D.sames] at h ⊢
  | x :: xs, ys, h => by
    cases ys with
    | nil => simp [D.sames] at h
    | cons y ys =>
      simp only [D.sames, Bool.and_eq_true] at h
      rw [D.same_eq h.1, D.sames_eq h.2]
end
/-- A value that is data, and this one. -/
def V.isD (v : V) (x : D) : Bool := match v with
  | .d y => D.same y x
  | _ => false
theorem V.isD_eq {v : V} {x : D} (h : v.isD x = true) : v = .d x := by
  unfold V.isD at h
  split at h
  · rw [D.same_eq h]
  · cases h
/-- What a run on an empty state comes to. -/
def runIs (Pr : Prog) (k f : Nat) (xs : List D) (x : D) : Bool := match runF Pr k f (ofDs xs) st0 with
  | some (r, s') => match esc s' 0 0 r with
    | some z => z.isD x
    | none => false
  | none => false
theorem CallW.of_runIs {Pr : Prog} {k f : Nat} {xs : List D} {x : D} {st : St} {Q : V → St → Prop} (h : runIs Pr k f xs x = true) (hQ : Q (.d x) st) : CallW Pr f (ofDs xs) st Q := by
  unfold runIs at h
  split at h
  · rename_i r s' hr
    split at h
    · rename_i z hz
      exact .of_empty ⟨k, r, s', z, hr, hz, by rw [V.isD_eq h]; exact hQ⟩
    · cases h
  · cases h
def envIs (e : Env) : List (Nat × D) → Bool
  | [] => true
  | (i, x) :: r => (match e.get i with
    | some v => v.isD x
    | none => false) && envIs e r
theorem envIs_mem {e : Env} : ∀ {l : List (Nat × D)}, envIs e l = true → ∀ i x, (i, x) ∈ l → e.get i = some (.d x)
  | [], _, i, x, h => by cases h
  | (j, y) :: r, hl, i, x, h => by
    simp only [envIs, Bool.and_eq_true] at hl
    cases h with
    | head =>
      have h1 := hl.1
      split at h1
      · rename_i v hv
        rw [hv, V.isD_eq h1]
      · cases h1
    | tail _ h => exact envIs_mem hl.2 i x h
end Go.Sh
