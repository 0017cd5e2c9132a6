/- Lists of symbols: one list is grown, kept. -/
import Derived.Test.YtnemobbnlacmjaaShLsyF
set_option linter.unusedVariables false
set_option linter.unusedSimpArgs false
namespace Go.Sh
/-- What has grown: it stays as it is, or it lies in its label's row still. -/
def Sm (s : St) (pv : List (V × List D)) (l : Option Nat) (g : V) (m : Nat) : Prop := (∃ L, (g, L) ∈ pv ∧ L.length = m * 6 ∧ ∀ d ∈ L, KI d) ∨ (foot g = l ∧ ∃ L, Lst s 6 g L ∧ L.length = m * 6 ∧ ∀ d ∈ L, KI d)
section
variable {s s' : St} {pv pv' : List (V × List D)} {l : Option Nat} {g : V} {m : Nat} {A : Nat → Prop} {P : V → Prop}
theorem Sm.mono (h : Sm s pv l g m) (hs : ∀ x ∈ pv, x ∈ pv') : Sm s pv' l g m := h.imp (fun ⟨L, h1, h2⟩ => ⟨L, hs _ h1, h2⟩) id
theorem Sm.kind (h : Sm s pv l g m) (gr : Gr s s' A P) (hP : ∀ x, P x → ∃ d, x = .d d ∧ KI d) : Sm s' pv l g m := by
  rcases h with h | ⟨h1, L, h2, h3, h4⟩
  · exact .inl h
  · obtain ⟨L', k1, k2, k3⟩ := h2.known h4 gr hP
    exact .inr ⟨h1, L', k1, by omega, k3⟩
theorem Sm.keep (h : Sm s pv l g m) (gr : Gr s s' A P) (hA : ∀ r, r < s.heap.length → l = some r → ¬ A r) : Sm s' pv l g m := by
  rcases h with h | ⟨h1, L, h2, h3, h4⟩
  · exact .inl h
  · exact .inr ⟨h1, L, h2.gr gr fun r hr => hA r (h2.lt hr) (h1 ▸ hr), h3, h4⟩
theorem Sm.of {p : Nat} {lab : Nat → Option Nat} {a n : Nat} {L : List D} (hg : (g, L) ∈ pv ∨ LR s 6 g n (ofDs L) (lab a)) (hl : L.length = n * 6) (hk : ∀ d ∈ L, KI d) : Sm s pv (lab a) g n := by
  rcases hg with e | e
  · exact .inl ⟨L, e, hl, hk⟩
  · exact .inr ⟨(e.lst).2.1, L, (e.lst).1, hl, hk⟩
end
/-- The label is given up: all that has grown in its row stays as it is. -/
theorem prots {s : St} {p : Nat} {R : List V} {lab : Nat → Option Nat} {fs : Fs} {pv : List (V × List D)} {al : List (Nat × List V)} (h : Hp 6 s p R lab fs pv al) {a n : Nat} (ha : a ≠ 0) {f : V} {M : List D} (hf : fs a = some (6, n, f, ofDs M)) :
    ∀ gs : List (V × Nat), (∀ x ∈ gs, Sm s pv (lab a) x.1 x.2) → ∃ pv', Hp 6 s p R (upd lab a none) (updF fs a none) pv' al ∧ (∀ x ∈ pv, x ∈ pv') ∧ (f, M) ∈ pv' ∧ ∀ x ∈ gs, ∃ L, (x.1, L) ∈ pv' ∧ L.length = x.2 * 6 ∧ ∀ d ∈ L, KI d
  | [], _ => ⟨_, h.done ha hf, fun x hx => List.mem_cons_of_mem _ hx, List.mem_cons_self, fun x hx => by cases hx⟩
  | y :: gs, hg => by
    obtain ⟨pv1, h1, h2, h3, h4⟩ := prots h ha hf gs fun x hx => hg x (List.mem_cons_of_mem _ hx)
    rcases hg y List.mem_cons_self with ⟨L, k1, k2, k3⟩ | ⟨k0, L, k1, k2, k3⟩
    · refine ⟨pv1, h1, h2, h3, fun x hx => ?_⟩
      cases hx with
      | head => exact ⟨L, h2 _ k1, k2, k3⟩
      | tail _ hx => exact h4 x hx
    · refine ⟨(y.1, L) :: pv1, h1.prot k1 (h.free k0) fun x hx e => (h.al x hx).2.1 a (by rw [← k0]; exact e), fun x hx => List.mem_cons_of_mem _ (h2 x hx), List.mem_cons_of_mem _ h3, fun x hx => ?_⟩
      cases hx with
      | head => exact ⟨L, List.mem_cons_self, k2, k3⟩
      | tail _ hx =>
        obtain ⟨L', e1, e2⟩ := h4 x hx
        exact ⟨L', List.mem_cons_of_mem _ e1, e2⟩
/-- Labels that agree but for what is kept. -/
def Off45 (lab lab' : Nat → Option Nat) (fs fs' : Fs) : Prop := ∀ c, c ≠ 4 → c ≠ 5 → lab' c = lab c ∧ fs' c = fs c
theorem Off45.trans {l1 l2 l3 : Nat → Option Nat} {f1 f2 f3 : Fs} (h : Off45 l1 l2 f1 f2) (k : Off45 l2 l3 f2 f3) : Off45 l1 l3 f1 f3 := fun c h4 h5 => ⟨(k c h4 h5).1.trans (h c h4 h5).1, (k c h4 h5).2.trans (h c h4 h5).2⟩
section
variable {pr : Prog} (hp : Sub syFns pr) {st : St} {p : Nat} {al : List (Nat × List V)} {lab : Nat → Option Nat} {fs : Fs} {pv : List (V × List D)}
include hp
theorem callW_keepZ {t bad F H K W k w : V} {n : Nat} {kv wv : List V} (h : Hp 6 st p [t, bad, F, H, K, W] lab fs pv al) (f4 : fs 4 = some (1, n, K, kv)) (f5 : fs 5 = some (1, n, W, wv)) (hk : k.ok1 = true ∧ k.cs = [k]) (hw : w.ok1 = true ∧ w.cs = [w]) (hn : n ≤ 1000000000) {Q : V → St → Prop}
    (hQ : ∀ s K' W' lab' fs', Hp 6 s p [t, bad, F, H, K', W'] lab' fs' pv al → Off45 lab lab' fs fs' → fs' 4 = some (1, n + 1, K', kv ++ [k]) → fs' 5 = some (1, n + 1, W', wv ++ [w]) → Gr st s (fun r => r = p ∨ lab 4 = some r ∨ lab 5 = some r) (fun _ => True) → Q (.tup []) s) : CallW pr 211 [.ptr p 0, k, w] st Q := by
  refine callW_keepY hp h f4 f5 hk hw hn ?_
  intro s K' W' j4 j5 h1 g1
  refine hQ s K' W' _ _ h1 (fun c h4 h5 => ⟨by rw [upd_ne h5, upd_ne h4], by rw [updF_ne h5, updF_ne h4]⟩) (by rw [updF_ne (by omega), updF_eq]) updF_eq g1
end
/-- i lists have been grown. -/
structure PG (s : St) (p : Nat) (b : Syb) (i : Nat) (mo : V) (m : Nat) (E : List D) (K W : V) (kv wv : List V) (lab : Nat → Option Nat) (fs : Fs) (pv : List (V × List D)) (al : List (Nat × List V)) : Prop where
  hp : Hp 6 s p [.d (.i .i64 b.total), .d (.b false), b.F, b.H, K, W] lab fs pv al
  f1 : fs 1 = some (1, b.fr.length, b.F, b.fr.map (·.1))
  f4 : fs 4 = some (1, b.kv.length + 5 * i, K, kv)
  f5 : fs 5 = some (1, b.kv.length + 5 * i, W, wv)
  f50 : fs 50 = some (6, m, mo, ofDs E)
  ek : ∀ d ∈ E, KI d
  m3 : m ≤ 3000
  kw : ∀ (t : Nat) k w, kv[t]? = some k → wv[t]? = some w → Pr2 pv k w
  fr : ∀ (t : Nat) x, b.fr[t]? = some x → i ≤ t → ∃ n, fs (t + 6) = some (6, n, x.1, ofDs (mkL ((b.kv.length + t : Nat) : Int) 0 n)) ∧ n ≤ 1099511627776
  none : ∀ a, b.fr.length + 6 ≤ a → a ≠ 50 → lab a = none ∧ fs a = none
  gone : ∀ t, t < i → lab (t + 6) = Option.none ∧ fs (t + 6) = Option.none
theorem PG.klen {s : St} {p : Nat} {b : Syb} {i : Nat} {mo : V} {m : Nat} {E : List D} {K W : V} {kv wv : List V} {lab : Nat → Option Nat} {fs : Fs} {pv : List (V × List D)} {al : List (Nat × List V)} (h : PG s p b i mo m E K W kv wv lab fs pv al) : kv.length = b.kv.length + 5 * i ∧ wv.length = b.kv.length + 5 * i :=
  ⟨by simpa using (h.hp.lr _ _ h.f4).1, by simpa using (h.hp.lr _ _ h.f5).1⟩
end Go.Sh
