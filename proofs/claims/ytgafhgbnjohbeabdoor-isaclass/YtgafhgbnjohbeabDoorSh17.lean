/- A region whose order is drawn. -/
import Derived.Test.YtgafhgbnjohbeabDoorSh16
set_option linter.unusedVariables false
set_option linter.unusedSimpArgs false
namespace Go.Sh
open Go.RowKit

/-! ### What an operation looks at -/
def Opd.tm : Opd → List Nat
  | .t n => [n]
  | _ => []
def tmo : Option Opd → List Nat
  | some x => x.tm
  | none => []
def tml : List Opd → List Nat
  | [] => []
  | x :: r => x.tm ++ tml r
def tmp3 : List (Nat × Nat × Opd) → List Nat
  | [] => []
  | (_, _, x) :: r => x.tm ++ tmp3 r
def SOp.tms : SOp → List Nat
  | .mov x => x.tm
  | .tok _ x => x.tm
  | .pick c a b => c.tm ++ (a.tm ++ b.tm)
  | .bin _ x y => x.tm ++ y.tm
  | .eqv _ _ x y => x.tm ++ y.tm
  | .un _ x => x.tm
  | .conv _ x => x.tm
  | .s2b x => x.tm
  | .b2s x => x.tm
  | .build _ ps => tmp3 ps
  | .lits _ _ ps => tmp3 ps
  | .litsR _ _ ps => tmp3 ps
  | .litsO _ _ ps => tmp3 ps
  | .box x => x.tm
  | .boxI x => x.tm
  | .alloc _ => []
  | .load _ _ p => p.tm
  | .store _ p x => p.tm ++ x.tm
  | .faddr _ p => p.tm
  | .field _ _ _ x => x.tm
  | .iaddr _ x i => x.tm ++ i.tm
  | .iaddrA _ _ p i => p.tm ++ i.tm
  | .idx _ _ _ x i => x.tm ++ i.tm
  | .idxS x i => x.tm ++ i.tm
  | .slc _ x lo hi m => x.tm ++ (tmo lo ++ (tmo hi ++ tmo m))
  | .slcS x lo hi => x.tm ++ (tmo lo ++ tmo hi)
  | .slcA _ _ x lo hi m => x.tm ++ (tmo lo ++ (tmo hi ++ tmo m))
  | .mkR _ _ l c => l.tm ++ c.tm
  | .mkD _ _ l c => l.tm ++ c.tm
  | .mkO _ _ _ l c => l.tm ++ c.tm
  | .len _ x => x.tm
  | .lenA _ => []
  | .app _ _ s x => s.tm ++ x.tm
  | .appR _ _ _ s x => s.tm ++ x.tm
  | .cpy _ a b => a.tm ++ b.tm
  | .mkMap => []
  | .lenM m => m.tm
  | .look _ _ _ m k => m.tm ++ k.tm
  | .mapSet m k x => m.tm ++ (k.tm ++ x.tm)
  | .mkI _ _ x => x.tm
  | .assertT _ _ _ _ _ x => x.tm
  | .extract _ x => x.tm
  | .nilChk x => x.tm
  | .call _ args => tml args
  | .invoke _ r args => r.tm ++ tml args
  | .mx x y => x.tm ++ y.tm
  | .mn x y => x.tm ++ y.tm
def Same (l : List Nat) (e e' : Env) : Prop := ∀ t ∈ l, e.get t = e'.get t
theorem Same.left {l r : List Nat} {e e' : Env} (h : Same (l ++ r) e e') : Same l e e' := fun t ht => h t (List.mem_append.2 (.inl ht))
theorem Same.right {l r : List Nat} {e e' : Env} (h : Same (l ++ r) e e') : Same r e e' := fun t ht => h t (List.mem_append.2 (.inr ht))
theorem ev_same {P : Prog} {x : Opd} {e e' : Env} (h : Same x.tm e e') : x.ev P e = x.ev P e' := by
  cases x with
  | t n => exact h n (by simp [Opd.tm])
  | _ => rfl
theorem evo_same {P : Prog} {x : Option Opd} {e e' : Env} (h : Same (tmo x) e e') : evo P e x = evo P e' x := by
  cases x with
  | none => rfl
  | some x => simp only [evo, ev_same (P := P) h]
theorem evs_same {P : Prog} {e e' : Env} : ∀ {l : List Opd}, Same (tml l) e e' → evs P e l = evs P e' l
  | [], _ => rfl
  | x :: l, h => by simp only [evs, ev_same (P := P) (x := x) h.left, evs_same (P := P) h.right]
theorem parts_same {P : Prog} {e e' : Env} : ∀ {l : List (Nat × Nat × Opd)}, Same (tmp3 l) e e' → partsV P e l = partsV P e' l
  | [], _ => rfl
  | (o, s, x) :: l, h => by simp only [partsV, ev_same (P := P) (x := x) h.left, parts_same (P := P) h.right]
theorem opS_same {P : Prog} {call : CallF} {e e' : Env} {st : St} {s : SOp} (h : Same s.tms e e') : opS P call e st s = opS P call e' st s := by
  cases s <;> simp only [SOp.tms] at h <;> simp only [opS]
  case pick c a b => rw [ev_same (P := P) h.left, ev_same (P := P) h.right.left, ev_same (P := P) h.right.right]
  case build => rw [parts_same (P := P) h]
  case lits => rw [parts_same (P := P) h]
  case litsR => rw [parts_same (P := P) h]
  case litsO => rw [parts_same (P := P) h]
  case slc => rw [ev_same (P := P) h.left, evo_same (P := P) h.right.left, evo_same (P := P) h.right.right.left, evo_same (P := P) h.right.right.right]
  case slcS => rw [ev_same (P := P) h.left, evo_same (P := P) h.right.left, evo_same (P := P) h.right.right]
  case slcA => rw [ev_same (P := P) h.left, evo_same (P := P) h.right.left, evo_same (P := P) h.right.right.left, evo_same (P := P) h.right.right.right]
  case mapSet => rw [ev_same (P := P) h.left, ev_same (P := P) h.right.left, ev_same (P := P) h.right.right]
  case call => rw [evs_same (P := P) h]
  case invoke => rw [ev_same (P := P) h.left, evs_same (P := P) h.right]
  all_goals first
    | rfl
    | rw [ev_same (P := P) h]
    | rw [ev_same (P := P) h.left, ev_same (P := P) h.right]

/-! ### Operations that leave the state alone; such as do not look at it -/
def isPure (Pr : Prog) (f : Nat) : Bool := match Pr.fn f with
  | some fn => fn.pure
  | none => false
def SOp.neutral (Pr : Prog) : SOp → Bool
  | .tok .. => false
  | .litsR .. => false
  | .litsO .. => false
  | .box _ => false
  | .alloc _ => false
  | .store .. => false
  | .mkR .. => false
  | .mkO .. => false
  | .app .. => false
  | .appR .. => false
  | .cpy .. => false
  | .mkMap => false
  | .mapSet .. => false
  | .call f _ => isPure Pr f
  | .invoke t _ _ => t.all fun p => isPure Pr p.2
  | _ => true
def SOp.blind : SOp → Bool
  | .mov _ => true
  | .pick .. => true
  | .bin .. => true
  | .eqv .. => true
  | .un .. => true
  | .conv .. => true
  | .s2b _ => true
  | .build .. => true
  | .lits .. => true
  | .boxI _ => true
  | .faddr .. => true
  | .field .. => true
  | .iaddr .. => true
  | .iaddrA .. => true
  | .idx .. => true
  | .idxS .. => true
  | .slc .. => true
  | .slcS .. => true
  | .slcA .. => true
  | .mkD .. => true
  | .len .. => true
  | .lenA _ => true
  | .mkI .. => true
  | .assertT .. => true
  | .extract .. => true
  | .nilChk _ => true
  | .mx .. => true
  | .mn .. => true
  | _ => false
def CallPure (Pr : Prog) (call : CallF) : Prop := ∀ f args st r st', isPure Pr f = true → call f args st = some (r, st') → st' = st
theorem lookup_all {table : List (Nat × Nat)} {p : Nat × Nat → Bool} : ∀ {tag f : Nat}, table.all p = true → table.lookup tag = some f → ∃ t, p (t, f) = true := by
  intro tag f
  induction table with
  | nil => intro _ h; simp at h
  | cons x r ih =>
    intro h1 h2
    simp only [List.all_cons, Bool.and_eq_true] at h1
    obtain ⟨t, g⟩ := x
    simp only [List.lookup_cons] at h2
    split at h2
    · simp only [Option.some.injEq] at h2
      subst h2
      exact ⟨t, h1.1⟩
    · exact ih h1.2 h2
theorem neutral_st {Pr : Prog} {call : CallF} (hp : CallPure Pr call) {e : Env} {st st' : St} {s : SOp} {x : V} (hs : s.neutral Pr = true) (h : opS Pr call e st s = some (x, st')) : st' = st := by
  cases s <;> simp only [SOp.neutral] at hs <;> try (cases hs; done)
  all_goals simp only [opS] at h
  case mov => exact (pureR_st h).2
  case pick =>
    obtain ⟨c, _, h⟩ := bind1_some h
    split at h
    · obtain ⟨_, _, h⟩ := bind1_some h
      obtain ⟨_, _, h⟩ := bind1_some h
      simp only [Option.some.injEq, Prod.mk.injEq] at h
      exact h.2.symm
    · cases h
  case s2b =>
    obtain ⟨c, _, h⟩ := bind1_some h
    split at h
    · simp only [Option.some.injEq, Prod.mk.injEq] at h
      exact h.2.symm
    · cases h
  case build =>
    split at h
    · exact (pureR_st h).2
    · cases h
  case lits =>
    split at h
    · exact (pureR_st h).2
    · cases h
  case boxI =>
    obtain ⟨c, _, h⟩ := bind1_some h
    split at h
    · exact (pureR_st h).2
    · cases h
  case slc =>
    obtain ⟨c, _, h⟩ := bind1_some h
    split at h
    · exact (pureR_st h).2
    · cases h
  case slcS =>
    obtain ⟨c, _, h⟩ := bind1_some h
    split at h
    · exact (pureR_st h).2
    · cases h
  case slcA =>
    obtain ⟨c, _, h⟩ := bind1_some h
    split at h
    · exact (pureR_st h).2
    · cases h
  case mkD =>
    obtain ⟨c, _, h⟩ := bind1_some h
    obtain ⟨c, _, h⟩ := bind1_some h
    split at h
    · split at h
      · simp only [Option.some.injEq, Prod.mk.injEq] at h
        exact h.2.symm
      · cases h
    · cases h
  case lenA =>
    simp only [Option.some.injEq, Prod.mk.injEq] at h
    exact h.2.symm
  case lenM =>
    obtain ⟨c, _, h⟩ := bind1_some h
    split at h
    · simp only [Option.some.injEq, Prod.mk.injEq] at h
      exact h.2.symm
    · split at h
      · simp only [Option.some.injEq, Prod.mk.injEq] at h
        exact h.2.symm
      · cases h
    · cases h
  case extract =>
    obtain ⟨c, _, h⟩ := bind1_some h
    split at h
    · exact (pureR_st h).2
    · cases h
  case nilChk =>
    obtain ⟨c, _, h⟩ := bind1_some h
    split at h <;> first
      | (cases h; done)
      | (simp only [Option.some.injEq, Prod.mk.injEq] at h
         exact h.2.symm)
  case call =>
    split at h
    · exact hp _ _ _ _ _ hs h
    · cases h
  case invoke =>
    obtain ⟨c, _, h⟩ := bind1_some h
    split at h
    · split at h
      · rename_i hf _ _
        obtain ⟨t, ht⟩ := lookup_all hs hf
        exact hp _ _ _ _ _ ht h
      · cases h
    · cases h
  all_goals first
    | (obtain ⟨_, _, h⟩ := bind1_some h
       first
        | exact (pureR_st h).2
        | (obtain ⟨_, _, h⟩ := bind1_some h
           exact (pureR_st h).2))
theorem pureR_any {st st' st2 : St} {x : Option V} {v : V} (h : pureR st x = some (v, st')) : pureR st2 x = some (v, st2) := by
  rw [(pureR_st h).1]
  rfl
theorem bind1_any {x : Option V} {f g : V → Option (V × St)} {r s : V × St} (h : bind1 x f = some r) (hg : ∀ v, f v = some r → g v = some s) : bind1 x g = some s := by
  obtain ⟨v, rfl, h⟩ := bind1_some h
  exact hg v h
theorem blind_any {Pr : Prog} {call : CallF} {e : Env} {st st' : St} (st2 : St) {s : SOp} {x : V} (hs : s.blind = true) (h : opS Pr call e st s = some (x, st')) : opS Pr call e st2 s = some (x, st2) := by
  cases s <;> simp only [SOp.blind] at hs <;> try (cases hs; done)
  all_goals simp only [opS] at h ⊢
  case mov => exact pureR_any h
  case pick =>
    refine bind1_any h fun v h => ?_
    split at h
    · refine bind1_any h fun v h => bind1_any h fun v h => ?_
      simp only [Option.some.injEq, Prod.mk.injEq] at h ⊢
      exact ⟨h.1, trivial⟩
    · cases h
  case s2b =>
    refine bind1_any h fun v h => ?_
    split at h
    · simp only [Option.some.injEq, Prod.mk.injEq] at h ⊢
      exact ⟨h.1, trivial⟩
    · cases h
  case build =>
    split at h
    · exact pureR_any h
    · cases h
  case lits =>
    split at h
    · exact pureR_any h
    · cases h
  case boxI =>
    refine bind1_any h fun v h => ?_
    split at h
    · rename_i hv
      rw [if_pos hv]
      exact pureR_any h
    · cases h
  case slc =>
    refine bind1_any h fun v h => ?_
    split at h
    · exact pureR_any h
    · cases h
  case slcS =>
    refine bind1_any h fun v h => ?_
    split at h
    · exact pureR_any h
    · cases h
  case slcA =>
    refine bind1_any h fun v h => ?_
    split at h
    · exact pureR_any h
    · cases h
  case mkD =>
    refine bind1_any h fun v h => bind1_any h fun u h => ?_
    split at h
    · rename_i n m e1 e2
      split at h
      · rename_i hnm
        simp only [Option.some.injEq, Prod.mk.injEq] at h
        simp only [e1, e2, hnm, if_true, h.1]
      · cases h
    · cases h
  case lenA =>
    simp only [Option.some.injEq, Prod.mk.injEq] at h
    rw [h.1]
  case extract =>
    refine bind1_any h fun v h => ?_
    split at h
    · exact pureR_any h
    · cases h
  case nilChk =>
    refine bind1_any h fun v h => ?_
    split at h <;> first
      | (cases h; done)
      | (simp only [Option.some.injEq, Prod.mk.injEq] at h
         obtain ⟨rfl, _⟩ := h
         rfl)
  all_goals first
    | exact bind1_any h fun v h => pureR_any h
    | exact bind1_any h fun v h => bind1_any h fun v h => pureR_any h
end Go.Sh
