/- Reading what comes in: arguments of plain data, as shadow data. -/
import Derived.Test.YtgafhgbnjohbeabDoorSh20
import Derived.DataReads
import Derived.SizedLaws
import Derived.Carry
import Derived.OpenShut
set_option linter.unusedVariables false
set_option linter.unusedSimpArgs false
namespace Go.Sh
open Go.RowKit

inductive Ty where
  | int (k : IntKind)
  | bool
  | str
  | sl (bytes : Nat) (e : Ty)
  | agg (fs : List Ty)
mutual
def Ty.size : Ty → Nat
  | .int _ => 1
  | .bool => 1
  | .str => 1
  | .sl _ _ => 1
  | .agg fs => Ty.sizes fs
def Ty.sizes : List Ty → Nat
  | [] => 0
  | t :: ts => t.size + Ty.sizes ts
end
mutual
def tyOk (P : Program) (t : TypeId) : Ty → Bool
  | .int k => match P.underlying t with
    | some (.int k') => decide (k' = k)
    | _ => false
  | .bool => match P.underlying t with
    | some .bool => true
    | _ => false
  | .str => match P.underlying t with
    | some .string => true
    | _ => false
  | .sl b e => match P.underlying t with
    | some (.slice u) => P.cellsOf u == e.size && P.bytesOf u == b && tyOk P u e
    | _ => false
  | .agg fs => match P.underlying t with
    | some (.struct gs) => P.cellsOf t == Ty.sizes fs && tyOks P 0 gs.toList fs
    | _ => false
def tyOks (P : Program) (off : Nat) : List Field → List Ty → Bool
  | [], [] => true
  | g :: gs, t :: ts => g.offset == off && P.cellsOf g.type == t.size && tyOk P g.type t && tyOks P (off + t.size) gs ts
  | _, _ => false
end
mutual
/-- The cells of a value of a type. -/
def Has : Ty → List D → Prop
  | .int k, cs => ∃ n, cs = [.i k n] ∧ k.min ≤ n ∧ n ≤ k.max
  | .bool, cs => ∃ b, cs = [.b b]
  | .str, cs => ∃ l, cs = [.s l] ∧ l.length ≤ 140737488351232
  | .sl b e, cs => ∃ (els : List (List D)) (nz : Bool), cs = [.sl els.length nz els.flatten] ∧ els.length * b ≤ 140737488351232 ∧ (nz = false → els = []) ∧ ∀ x ∈ els, Has e x
  | .agg fs, cs => Hass fs cs
def Hass : List Ty → List D → Prop
  | [], cs => cs = []
  | t :: ts, cs => ∃ a b, cs = a ++ b ∧ Has t a ∧ Hass ts b
end
mutual
theorem Has.length : ∀ {t : Ty} {cs : List D}, Has t cs → cs.length = t.size
  | .int _, _, h => by simp only [Has] at h; obtain ⟨n, rfl, _⟩ := h; rfl
  | .bool, _, h => by simp only [Has] at h; obtain ⟨n, rfl⟩ := h; rfl
  | .str, _, h => by simp only [Has] at h; obtain ⟨n, rfl, _⟩ := h; rfl
  | .sl _ _, _, h => by simp only [Has] at h; obtain ⟨_, _, rfl, _⟩ := h; rfl
  | .agg fs, _, h => by simp only [Has] at h; simp only [Ty.size]; exact Hass.length h
theorem Hass.length : ∀ {ts : List Ty} {cs : List D}, Hass ts cs → cs.length = Ty.sizes ts
  | [], _, h => by simp only [Hass] at h; subst h; rfl
  | t :: ts, _, h => by
    simp only [Hass] at h
    obtain ⟨a, b, rfl, h1, h2⟩ := h
    simp only [List.length_append, Ty.sizes]
    rw [Has.length h1, Hass.length h2]
end
mutual
def bulkD : D → Nat
  | .s l => l.length + 1
  | .sl _ _ cs => bulkL cs + 1
  | .ifc _ _ cs => bulkL cs + 1
  | .i .. => 1
  | .b _ => 1
  | .np => 1
  | .nm => 1
  | .ni => 1
  | .nf => 1
def bulkL : List D → Nat
  | [] => 0
  | d :: r => bulkD d + bulkL r
end
mutual
def bulkW {H : Type} : DataW H → Nat
  | .lit (.string bytes) => bytes.length + 1
  | .lit _ => 1
  | .nil => 1
  | .ptr d => bulkW d + 1
  | .slice elems spare => bulkWs elems + bulkWs spare + 1
  | .agg parts => bulkWs parts + 1
  | .iface _ d => bulkW d + 1
  | .map entries => bulkWe entries + 1
  | .held _ => 1
def bulkWs {H : Type} : List (DataW H) → Nat
  | [] => 0
  | d :: r => bulkW d + bulkWs r
def bulkWe {H : Type} : List (Lit × DataW H) → Nat
  | [] => 0
  | x :: r => bulkWx x + bulkWe r
def bulkWx {H : Type} : Lit × DataW H → Nat
  | (.string bytes, d) => bytes.length + bulkW d + 1
  | (_, d) => bulkW d + 1
end
theorem bulkL_append : ∀ (a b : List D), bulkL (a ++ b) = bulkL a + bulkL b
  | [], b => by simp [bulkL]
  | x :: a, b => by simp only [List.cons_append, bulkL, bulkL_append a b]; omega

theorem weights_all_mem {H : Type} {P : Program} {u : TypeId} : ∀ {ds : List (DataW H)} {d : DataW H} {m : Nat}, d ∈ ds → m ∈ d.weights P u → m ∈ DataW.weightsAll P u ds
  | [], d, m, h, _ => by cases h
  | x :: ds, d, m, h, hm => by
    simp only [DataW.weightsAll, List.mem_append]
    cases h with
    | head => exact .inl hm
    | tail _ h => exact .inr (weights_all_mem h hm)
theorem flatten_get {α : Type} {s : Nat} : ∀ {els : List (List α)}, (∀ x ∈ els, x.length = s) → ∀ {j : Nat} {c : α}, els.flatten[j]? = some c → ∃ i k x, els[i]? = some x ∧ x[k]? = some c ∧ j = i * s + k
  | [], _, j, c, h => by simp at h
  | x :: els, hs, j, c, h => by
    have hx := hs x List.mem_cons_self
    rw [List.flatten_cons, List.getElem?_append] at h
    split at h
    · exact ⟨0, j, x, rfl, h, by omega⟩
    · rename_i hge
      obtain ⟨i, k, y, h1, h2, h3⟩ := flatten_get (fun x hx => hs x (List.mem_cons_of_mem _ hx)) h
      refine ⟨i + 1, k, y, h1, h2, ?_⟩
      have : (i + 1) * s = i * s + s := Nat.succ_mul i s
      omega
theorem flatten_bulk {H : Type} : ∀ {els : List (List D)} {xs : List (DataW H × List MemPlace)}, els.length = xs.length → (∀ (i : Nat) (x : List D) (w : DataW H × List MemPlace), els[i]? = some x → xs[i]? = some w → bulkL x ≤ bulkW w.1) → bulkL els.flatten ≤ bulkWs (xs.map (·.1))
  | [], xs, _, _ => by simp [bulkL]
  | x :: els, [], h, _ => by simp at h
  | x :: els, w :: xs, hl, h => by
    rw [List.flatten_cons, bulkL_append]
    simp only [List.map_cons, bulkWs]
    have h1 := h 0 x w rfl rfl
    have h2 := flatten_bulk (els := els) (xs := xs) (by simpa using hl) fun i a b ha hb => h (i + 1) a b (by simpa using ha) (by simpa using hb)
    omega
theorem mapM_all2 {α β : Type} {f : α → Option β} : ∀ {l : List α} {r : List β}, l.mapM f = some r → All2 (fun x y => f x = some y) l r
  | [], r, h => by simp at h; subst h; exact .nil
  | x :: l, r, h => by
    rw [List.mapM_cons] at h
    cases hx : f x with
    | none => simp [hx] at h
    | some y =>
      cases hl : l.mapM f with
      | none => simp [hx, hl] at h
      | some ys =>
        simp [hx, hl] at h
        subst h
        exact .cons hx (mapM_all2 hl)
section
variable {H : Type} {enc : TypeId × Value → H} {P : Program} {W : World} {sp : Nat → Bool} {L : Link} {I : Imm}
theorem addr_add_add {a : Addr} {i j : Nat} : (a.add i).add j = a.add (i + j) := by
  unfold Addr.add
  by_cases hj : j = 0
  · subst hj; simp
  · by_cases hi : i = 0
    · subst hi; simp
    · simp only [hj, hi, if_false, show i + j ≠ 0 by omega]
      simp [Nat.add_assoc]
theorem cell_spot {a : Addr} {i : Nat} {x : Value} (h : W.cell? (a.add i) = some x) : W.cell? ⟨a.block, a.off + i, none⟩ = some x ∧ (i = 0 → a.spot = none) := by
  unfold Addr.add at h
  by_cases hi : i = 0
  · subst hi
    simp only [if_true] at h
    have hs : a.spot = none := by
      unfold World.cell? at h
      split at h
      · split at h
        · cases h
        · rename_i hh; simpa using hh
      · cases h
    refine ⟨?_, fun _ => hs⟩
    obtain ⟨b, o, s⟩ := a
    simp only at hs
    subst hs
    simpa using h
  · rw [if_neg hi] at h
    exact ⟨h, fun e => (hi e).elim⟩
theorem cells_get {a : Addr} {n : Nat} {cs : List Value} (h : W.cells? 0 a n = some cs) : cs.length = n ∧ ∀ (i : Nat) x, cs[i]? = some x → W.cell? (a.add i) = some x := by
  unfold World.cells? at h
  rw [if_pos (Nat.zero_le _)] at h
  have hl := mapM_some_length h
  refine ⟨by simpa using hl, fun i x hx => ?_⟩
  have hlt := (List.getElem?_eq_some_iff.1 hx).1
  have := mapM_some_get h i i (by rw [List.getElem?_range (by simpa [hl] using hlt)])
  rw [this, hx]
theorem all_append {l r : List Nat} {R : Nat} (h : (l ++ r).all (· ≤ R) = true) : l.all (· ≤ R) = true ∧ r.all (· ≤ R) = true := by
  rw [List.all_append, Bool.and_eq_true] at h
  exact h
mutual
theorem read_ty (hI : ∀ b o x, W.cell? ⟨b, o, none⟩ = some x → I b o x) : ∀ {ty : Ty} {fuel : Nat} {t : TypeId} {cs : List Value} {d : DataW H} {ps : List MemPlace}, tyOk P t ty = true → DataW.trod enc P W 0 sp true fuel t cs = some (d, ps) → (d.weights P t).all (· ≤ reachBytes) = true →
    ∃ ds, All2 (RepD L I) ds cs ∧ Has ty ds ∧ bulkL ds ≤ bulkW d
  | .int k, fuel, t, cs, d, ps, hok, h, hw => by
    cases fuel with
    | zero => simp [DataW.trod] at h
    | succ fuel =>
      simp only [tyOk] at hok
      split at hok
      case h_2 => cases hok
      rename_i k' hu
      simp only [decide_eq_true_eq] at hok
      subst hok
      rw [DataW.trod.eq_def] at h
      simp only [hu] at h
      split at h <;> try (simp_all; done)
      rename_i k1 k2 n1 heq
      simp only [Option.some.injEq, TypeDesc.int.injEq] at heq
      subst heq
      split at h
      · rename_i hk
        obtain ⟨rfl, hwf⟩ := hk
        simp only [Option.some.injEq, Prod.mk.injEq] at h
        obtain ⟨rfl, rfl⟩ := h
        simp only [Lit.wf, Bool.and_eq_true, decide_eq_true_eq] at hwf
        exact ⟨[.i k2 n1], .cons (by simp only [RepD]) .nil, by simp only [Has]; exact ⟨n1, rfl, hwf⟩, by simp [bulkL, bulkD, bulkW]⟩
      · cases h
  | .bool, fuel, t, cs, d, ps, hok, h, hw => by
    cases fuel with
    | zero => simp [DataW.trod] at h
    | succ fuel =>
      simp only [tyOk] at hok
      split at hok
      case h_2 => cases hok
      rename_i hu
      rw [DataW.trod.eq_def] at h
      simp only [hu] at h
      split at h <;> try (simp_all; done)
      rename_i b1 heq
      simp only [Option.some.injEq, Prod.mk.injEq] at h
      obtain ⟨rfl, rfl⟩ := h
      exact ⟨[.b b1], .cons (by simp only [RepD]) .nil, by simp only [Has]; exact ⟨b1, rfl⟩, by simp [bulkL, bulkD, bulkW]⟩
  | .str, fuel, t, cs, d, ps, hok, h, hw => by
    cases fuel with
    | zero => simp [DataW.trod] at h
    | succ fuel =>
      simp only [tyOk] at hok
      split at hok
      case h_2 => cases hok
      rename_i hu
      rw [DataW.trod.eq_def] at h
      simp only [hu] at h
      split at h <;> try (simp_all; done)
      split at h
      · rename_i s _ _
        simp only [Option.some.injEq, Prod.mk.injEq] at h
        obtain ⟨rfl, rfl⟩ := h
        simp only [DataW.weights, List.all_cons, List.all_nil, Bool.and_true, decide_eq_true_eq] at hw
        refine ⟨[.s s.data.toList], .cons (by simp [RepD]) .nil, by simp only [Has]; exact ⟨_, rfl, hw⟩, by simp [bulkL, bulkD, bulkW]⟩
      · cases h
  | .sl b e, fuel, t, cs, d, ps, hok, h, hw => by
    cases fuel with
    | zero => simp [DataW.trod] at h
    | succ fuel =>
      simp only [tyOk] at hok
      split at hok
      case h_2 => cases hok
      rename_i u hu
      simp only [Bool.and_eq_true, beq_iff_eq] at hok
      obtain ⟨⟨hc, hb⟩, he⟩ := hok
      rw [DataW.trod.eq_def] at h
      simp only [hu] at h
      split at h <;> try (simp_all; done)
      · simp only [Option.some.injEq, Prod.mk.injEq] at h
        obtain ⟨rfl, rfl⟩ := h
        refine ⟨[.sl 0 false []], .cons ?_ .nil, by simp only [Has]; exact ⟨[], false, rfl, by simp, fun _ => rfl, by simp⟩, by simp [bulkL, bulkD, bulkW]⟩
        simp only [RepD]
        exact ⟨none, 0, rfl, Nat.le_refl _, rfl, fun _ => rfl, .inl trivial⟩
      · rename_i e' a len cap heq
        simp only [Option.some.injEq, TypeDesc.slice.injEq] at heq
        subst heq
        split at h
        case isFalse => cases h
        rename_i hcap
        simp only [Option.bind_eq_some_iff] at h
        obtain ⟨elems, helems, h⟩ := h
        simp only [Option.map_eq_some_iff, Prod.mk.injEq] at h
        obtain ⟨rest, hrest, rfl, rfl⟩ := h
        simp only [DataW.weights, hu, List.all_cons, Bool.and_eq_true, decide_eq_true_eq, List.length_map] at hw
        obtain ⟨hw1, hw2⟩ := hw
        obtain ⟨hw2, _⟩ := all_append hw2
        have hlen : elems.length = len := by simpa using mapM_some_length helems
        -- each element
        have hel : ∀ i, i < len → ∃ (x : DataW H × List MemPlace) (vs : List Value) (ds : List D), elems[i]? = some x ∧ W.cells? 0 (a.add (i * P.cellsOf u)) (P.cellsOf u) = some vs ∧ All2 (RepD L I) ds vs ∧ Has e ds ∧ bulkL ds ≤ bulkW x.1 := by
          intro i hi
          have hx := mapM_some_get helems i i (List.getElem?_range hi)
          have hlt : i < elems.length := by omega
          rw [List.getElem?_eq_getElem hlt] at hx
          simp only [Option.bind_eq_some_iff] at hx
          obtain ⟨vs, hvs, hx⟩ := hx
          have hw3 : (elems[i].1.weights P u).all (· ≤ reachBytes) = true := by
            rw [List.all_eq_true] at hw2 ⊢
            intro m hm
            exact hw2 m (weights_all_mem (ds := elems.map (·.1)) (List.mem_map.2 ⟨elems[i], List.getElem_mem hlt, rfl⟩) hm)
          obtain ⟨ds, h1, h2, h3⟩ := read_ty hI he hx hw3
          exact ⟨elems[i], vs, ds, List.getElem?_eq_getElem hlt, hvs, h1, h2, h3⟩
        have hels : ∃ els : List (List D), els.length = len ∧ ∀ i x, els[i]? = some x → ∃ (w : DataW H × List MemPlace) (vs : List Value), elems[i]? = some w ∧ W.cells? 0 (a.add (i * P.cellsOf u)) (P.cellsOf u) = some vs ∧ All2 (RepD L I) x vs ∧ Has e x ∧ bulkL x ≤ bulkW w.1 := by
          clear hw1 hw2 helems hlen hcap hrest
          revert hel
          induction len with
          | zero => intro _; exact ⟨[], rfl, fun i x hx => by simp at hx⟩
          | succ n ih =>
            intro hel
            obtain ⟨els, h1, h2⟩ := ih fun i hi => hel i (by omega)
            obtain ⟨w, vs, ds, k1, k2, k3, k4, k5⟩ := hel n (by omega)
            refine ⟨els ++ [ds], by simp [h1], fun i x hx => ?_⟩
            rw [List.getElem?_append] at hx
            split at hx
            · exact h2 i x hx
            · rename_i hge
              have hi : i = n := by
                have := (List.getElem?_eq_some_iff.1 hx).1
                simp at this
                omega
              subst hi
              simp [h1] at hx
              subst hx
              exact ⟨w, vs, k1, k2, k3, k4, k5⟩
        obtain ⟨els, hl, hels⟩ := hels
        have hall : ∀ x ∈ els, Has e x := by
          intro x hx
          obtain ⟨i, hi⟩ := List.getElem?_of_mem hx
          obtain ⟨_, _, _, _, _, h, _⟩ := hels i x hi
          exact h
        refine ⟨[.sl els.length true els.flatten], .cons ?_ .nil, ?_, ?_⟩
        · simp only [RepD]
          refine ⟨some a, cap, by rw [hl], by rw [hl]; exact hcap.2.1, rfl, fun h => (by cases h), ?_⟩
          have hcell : ∀ j c, els.flatten[j]? = some c → ∃ x, W.cell? (a.add j) = some x ∧ RepD L I c x := by
            intro j c hj
            have hsz : ∀ x ∈ els, x.length = e.size := fun x hx => (hall x hx).length
            obtain ⟨i, k, x, hx, hk, rfl⟩ := flatten_get hsz hj
            obtain ⟨w, vs, _, k2, k3, _, _⟩ := hels i x hx
            obtain ⟨v, hv, hd⟩ := k3.get hk
            have := (cells_get k2).2 k v hv
            rw [addr_add_add, hc] at this
            exact ⟨v, this, hd⟩
          by_cases hnil : els.flatten = []
          · exact .inl hnil
          · refine .inr ⟨a.block, a.off, ?_, RepL.of fun j c hj => ?_⟩
            · obtain ⟨c0, hc0⟩ : ∃ c, els.flatten[0]? = some c := by
                cases hfl : els.flatten with
                | nil => exact (hnil hfl).elim
                | cons c r => exact ⟨c, rfl⟩
              obtain ⟨x, hx, _⟩ := hcell 0 c0 hc0
              have := (cell_spot hx).2 rfl
              obtain ⟨b, o, s⟩ := a
              simp only at this
              subst this
              rfl
            · obtain ⟨x, hx, hd⟩ := hcell j c hj
              exact ⟨x, hI _ _ _ (cell_spot hx).1, hd⟩
        · simp only [Has]
          refine ⟨els, true, rfl, ?_, fun h => (by cases h), hall⟩
          rw [hl, ← hb]
          refine Nat.le_trans ?_ hw1
          rw [hlen]
          exact Nat.mul_le_mul_right _ (by omega)
        · simp only [bulkL, bulkD, bulkW]
          have : bulkL els.flatten ≤ bulkWs (elems.map (·.1)) := by
            refine flatten_bulk (by rw [hl, hlen]) fun i x w hx hw => ?_
            obtain ⟨w', vs, k1, _, _, _, k5⟩ := hels i x hx
            rw [k1] at hw
            obtain rfl := Option.some.inj hw
            exact k5
          omega
  | .agg fs, fuel, t, cs, d, ps, hok, h, hw => by
    cases fuel with
    | zero => simp [DataW.trod] at h
    | succ fuel =>
      simp only [tyOk] at hok
      split at hok
      case h_2 => cases hok
      rename_i gs hu
      simp only [Bool.and_eq_true, beq_iff_eq] at hok
      obtain ⟨hc, he⟩ := hok
      rw [DataW.trod.eq_def] at h
      simp only [hu] at h
      split at h
      case isFalse => cases h
      rename_i hlen
      simp only [Option.map_eq_some_iff, Prod.mk.injEq] at h
      obtain ⟨xs, hxs, rfl, rfl⟩ := h
      simp only [DataW.weights, hu] at hw
      obtain ⟨ds, h1, h2, h3⟩ := read_tys hI he (mapM_all2 hxs) hw (by rw [hlen, hc]; omega)
      exact ⟨ds, by simpa using h1, by simp only [Has]; exact h2, by simp only [bulkW]; omega⟩
theorem read_tys (hI : ∀ b o x, W.cell? ⟨b, o, none⟩ = some x → I b o x) : ∀ {tys : List Ty} {fuel off : Nat} {gs : List Field} {cs : List Value} {xs : List (DataW H × List MemPlace)}, tyOks P off gs tys = true →
    All2 (fun (g : Field) x => DataW.trod enc P W 0 sp true fuel g.type ((cs.drop g.offset).take (P.cellsOf g.type)) = some x) gs xs → (DataW.weightsEach P (gs.map (·.type)) (xs.map (·.1))).all (· ≤ reachBytes) = true → cs.length = off + Ty.sizes tys →
    ∃ ds, All2 (RepD L I) ds (cs.drop off) ∧ Hass tys ds ∧ bulkL ds ≤ bulkWs (xs.map (·.1))
  | [], fuel, off, gs, cs, xs, hok, ha, hw, hl => by
    cases gs with
    | cons => simp [tyOks] at hok
    | nil =>
      simp only [Ty.sizes, Nat.add_zero] at hl
      refine ⟨[], ?_, by simp only [Hass], by simp [bulkL]⟩
      rw [List.drop_eq_nil_of_le (by omega)]
      exact .nil
  | ty :: tys, fuel, off, gs, cs, xs, hok, ha, hw, hl => by
    cases gs with
    | nil => simp [tyOks] at hok
    | cons g gs =>
      cases ha with
      | cons h1 h2 =>
        rename_i x xs
        simp only [tyOks, Bool.and_eq_true, beq_iff_eq] at hok
        obtain ⟨⟨⟨ho, hc⟩, ht⟩, hr⟩ := hok
        subst ho
        simp only [List.map_cons, DataW.weightsEach] at hw
        obtain ⟨hw1, hw2⟩ := all_append hw
        simp only [Ty.sizes] at hl
        obtain ⟨ds1, a1, a2, a3⟩ := read_ty hI ht (d := x.1) (ps := x.2) h1 hw1
        obtain ⟨ds2, b1, b2, b3⟩ := read_tys hI (off := g.offset + ty.size) hr h2 hw2 (by omega)
        refine ⟨ds1 ++ ds2, ?_, by simp only [Hass]; exact ⟨ds1, ds2, rfl, a2, b2⟩, by rw [bulkL_append]; simp only [List.map_cons, bulkWs]; omega⟩
        have : cs.drop g.offset = (cs.drop g.offset).take ty.size ++ cs.drop (g.offset + ty.size) := by
          rw [← List.drop_drop, List.take_append_drop]
        rw [this]
        rw [hc] at a1
        exact a1.append b1
end
end
end Go.Sh
