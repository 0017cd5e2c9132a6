/- Lists of registers that are handed out as rows (isa). -/
import Derived.Test.YtnemobbnlacmjaaDoorShLnu2
import Derived.Test.YtnemobbnlacmjaaDoorShLisaRegs
set_option linter.unusedVariables false
set_option linter.unusedSimpArgs false
namespace Go.Sh
def rowNFns : List (Nat × SFn) := [(236, F236_isa_Writes_row), (237, F237_isa_Reads_row), (238, F238_isa_Ops_row), (239, F239_isa_run_row)]
/-- A list in a row that is new. -/
def NewL (st s : St) (v : V) (l : List Int) : Prop := ∃ j, LR s 1 v l.length (ofDs (icl l)) j ∧ Gr st s (fun _ => False) (fun _ => True) ∧ ∀ r, j = some r → st.heap.length ≤ r
theorem icl_len (l : List Int) : (icl l).length = l.length := by
  unfold icl
  rw [flatten_len (sz := 1) (fun y hy => by simp only [List.mem_map] at hy; obtain ⟨z, _, rfl⟩ := hy; rfl), List.length_map, Nat.mul_one]
theorem icl_k (l : List Int) : ∀ d ∈ icl l, KI d := by
  intro d hd
  simp only [icl, List.mem_flatten, List.mem_map] at hd
  obtain ⟨_, ⟨x, _, rfl⟩, hd⟩ := hd
  simp only [ic, List.mem_singleton] at hd
  exact ⟨x, hd⟩
theorem NewL.nil (st : St) : NewL st st (.d (.sl 0 false [])) [] := ⟨none, .nil _ _, .refl _ _ _, fun r hr => by cases hr⟩
theorem NewL.pre {s0 st s : St} {v : V} {l : List Int} (h : NewL st s v l) (g : Gr s0 st (fun _ => False) (fun _ => True)) : NewL s0 s v l := by
  obtain ⟨j, h1, h2, h3⟩ := h
  exact ⟨j, h1, g.trans h2, fun r hr => Nat.le_trans g.len (h3 r hr)⟩
theorem NewL.lit (st : St) (x : Int) : NewL st (st.push (.row [.d (.i .i64 x)])) (.rsl 1 st.heap.length 0 1 1) [x] := ⟨some st.heap.length, ⟨rfl, .inr ⟨st.heap.length, 1, [], rfl, rfl, Nat.le_refl _, by rw [row_push_new rfl]; rfl, rfl⟩⟩, .push _, fun r hr => by obtain rfl := Option.some.inj hr; exact Nat.le_refl _⟩
/-- An element more. -/
theorem NewL.app {st s : St} {v : V} {l : List Int} (h : NewL st s v l) (hf : st.floor = 0) (hl : l.length ≤ 1000) (x : Int) {Q : V → St → Prop} (hQ : ∀ s' v', NewL st s' v' (l ++ [x]) → Q v' s') : appW 1 8 [D.i .i64 0] s v (.d (.sl 1 true [.i .i64 x])) Q := by
  obtain ⟨j, h1, h2, h3⟩ := h
  refine appW_LR (h2.floor.trans hf) h1 (show vwV 1 s (.d (.sl 1 true [D.i .i64 x])) = some (1, ofDs [D.i .i64 x]) from rfl) (by simp [ofDs]) rfl (by omega) (by omega) ?_
  intro s' v' j' h4 g4 n4
  refine hQ s' v' ⟨j', ?_, ?_, ?_⟩
  · have e : ofDs (icl l) ++ ofDs [D.i .i64 x] = ofDs (icl (l ++ [x])) := by simp [icl, ofDs, ic]
    rw [e] at h4
    simpa using h4
  · have := (h2.mono (A' := fun r => st.heap.length ≤ r) (fun _ _ e => e.elim) fun _ h => h).trans (g4.mono (A' := fun r => st.heap.length ≤ r) (fun r hr e => h3 r e) fun _ _ => trivial)
    exact this.mono (fun r hr e => by omega) fun _ h => h
  · intro r hr
    have := h2.len
    rcases n4 with e | ⟨i, e, hi, _⟩
    · exact h3 r (by rw [← e]; exact hr)
    · rw [e] at hr
      obtain rfl := Option.some.inj hr
      omega
section
variable {pr : Prog} (hI : IsaOk pr) (hp : Sub rowNFns pr) {st : St}
include hp
theorem callW_runR (hf : st.floor = 0) (a n : Nat) (ha : a ≤ 100) (hn : n ≤ 100) {b : Int} (hb : b = (a : Int) + n - 1) : CallW pr 239 [.d (.i .i64 a), .d (.i .i64 b)] st fun v s => NewL st s v ((List.range n).map fun k : Nat => (a : Int) + (k : Int)) := by
  refine .run (fun _ => false) (hp.at 3 rfl) rfl ?_
  rw [start_raw _ rfl]
  refine codeC_of ?_
  simp [F239_isa_run_row]
  refine loopW_j (fun _ => false) (fun n' e s => ∃ k w, k ≤ n ∧ n' = n - k ∧ e = [(1, .d (.i .i64 b)), (5, w), (6, .d (.i .i64 ((a + k : Nat) : Int)))] ∧ NewL st s w ((List.range k).map fun k : Nat => (a : Int) + (k : Int))) ?_ (n := n) ⟨0, .d (.sl 0 false []), Nat.zero_le _, rfl, by simp, .nil st⟩
  rintro n' e s ⟨k, w, hk, rfl, rfl, h1⟩
  obtain ⟨q, hq⟩ : ∃ q : Int, q = ((a + k : Nat) : Int) := ⟨_, rfl⟩
  rw [← hq]
  rcases Nat.lt_or_ge k n with hlt | hge
  · have c1 : q ≤ b := by omega
    have w1 : IntKind.wrap .i64 (q + 1) = ((a + (k + 1) : Nat) : Int) := by rw [wrap_i64 (by omega) (by omega)]; omega
    simp [F239_isa_run_row_b0, c1, fillV, reps, lay, ofDs]
    refine h1.app hf (by simp; omega) q ?_
    intro s' v' h2
    obtain ⟨q', hq'⟩ : ∃ q' : Int, q' = ((a + (k + 1) : Nat) : Int) := ⟨_, rfl⟩
    rw [← hq'] at w1
    simp [w1]
    refine ⟨n - (k + 1), by omega, k + 1, by omega, rfl, v', ⟨rfl, by rw [hq']; simp⟩, ?_⟩
    have hq2 : (a : Int) + (k : Int) = q := by omega
    rw [List.range_succ, List.map_append, List.map_singleton, hq2]
    exact h2
  · have : k = n := by omega
    subst this
    have c1 : ¬ q ≤ b := by omega
    simp [F239_isa_run_row_b0, c1, FinW]
    exact h1
end
end Go.Sh
