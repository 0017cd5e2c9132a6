/- Registers and opcodes that are handed out are new memory: IsaOwns. -/
import Derived.Test.YtnemobbnlacmjaaDoorShLnuO
import Derived.Test.YtnemobbnlacmjaaDoorShLisaTells
set_option linter.unusedVariables false
set_option linter.unusedSimpArgs false
namespace Go.Sh
def lawOFns : List (Nat × SFn) := [(227, F227_spindlelaw2_IsaOwns), (15, F15_spindleref2_Ops)]
def wIO : Nat → Bool := fun f => f == 236 || f == 237 || f == 238 || f == 16 || f == 226 || f == 228
theorem cls_rows : ∀ c ∈ classes, decide (0 < c.rows.length) = decide (c.form ≠ 0) := by decide +kernel
section
variable {pr : Prog} (hI : IsaOk pr) (hR : RefOk pr) (hq : Sub rowNFns pr) (hp : Sub regFns pr) (hr : Sub rrefFns pr) (hn : Sub nuFns pr) (hw : Sub awFns pr) (ht : Sub lawOFns pr) {st : St}
include hR ht in
set_option maxRecDepth 8000 in
theorem den_rOps : den pr 15 [] st = some (isl (opsV 256), st) := by
  obtain ⟨W, hW⟩ : ∃ W, W = opsV 256 := ⟨_, rfl⟩
  obtain ⟨N, hN⟩ : ∃ N : Nat, N = 256 := ⟨_, rfl⟩
  rw [← hW]
  rw [← hN] at hW
  refine den_shut (ht.at 1 rfl) rfl rfl (by simp; rfl) ?_
  have happ1 : ∀ x : D, appV 1 8 (s0 [] [] 0 0) (.d (.sl 0 false [])) (.d (.sl 1 true [x])) = some (.own 1 1 true [x] 0, s0 [] [1] 0 0) := fun x => by simp [appV, vw]
  have happ2 : ∀ (x : D) (n : Nat) (cs : List D), cs.length = n → n ≤ 1000 → appV 1 8 (s0 [] [n] 0 0) (.own 1 n true cs 0) (.d (.sl 1 true [x])) = some (.own 1 (n + 1) true (cs ++ [x]) 0, s0 [] [n + 1] 0 0) := fun x n cs h1 h2 => by
    have e1 : n * 8 + 8 ≤ 140737488355328 := by omega
    have e2 : n + 1 ≤ 140737488355328 := by omega
    have e3 : (n + 1) * 8 ≤ 140737488355328 := by omega
    simp [appV, vw, h1, e1, e2, e3]
  simp [F15_spindleref2_Ops]
  generalize hL : cden pr (.loop _ _ _) _ _ = o
  obtain ⟨r, rfl, hQ⟩ : ∃ r, o = some r ∧ ∃ (v : V) (e : Env) (s : St), r = (.exit 0, e, s) ∧ e.get 1 = some v ∧ esc s 0 0 v = some (isl W) := by
    rw [← hL]
    refine loop_j (fun n e s => ∃ k v, k ≤ N ∧ n = N - k ∧ e = [(1, v), (2, .d (.i .i64 (k : Int)))] ∧ ((opsV k = [] ∧ v = .d (.sl 0 false []) ∧ s = s0 [] [] 0 0) ∨ (v = .own 1 (opsV k).length true (icl (opsV k)) 0 ∧ opsV k ≠ [] ∧ s = s0 [] [(opsV k).length] 0 0))) ?_ (n := N) ⟨0, .d (.sl 0 false []), Nat.zero_le _, by omega, by simp, .inl ⟨rfl, rfl, rfl⟩⟩
    rintro n e s ⟨k, v, hk, rfl, rfl, h1⟩
    by_cases hlt : k < N
    · have c1 : (k : Int) < 256 := by omega
      have c2 : k < 256 := by omega
      have w1 : IntKind.wrap .i64 ((k : Int) + 1) = (k : Int) + 1 := wrap_i64 (by omega) (by omega)
      obtain ⟨c, hc, hcl, hrow⟩ := row_facts hR k (by omega)
      have hcr := cls_rows c hc
      have hkl := opsV_len k
      by_cases h0 : c.form = 0
      · have he : opsV (k + 1) = opsV k := by simp [opsV, List.range_succ, List.filter_append, hcl, h0]
        have hrl : c.rows = [] := by simpa [h0] using hcr
        simp [F15_spindleref2_Ops_b0, c1, c2, hrow, hrl, w1, JStep]
        exact ⟨N - (k + 1), by omega, k + 1, by omega, rfl, v, ⟨rfl, rfl⟩, by rw [he]; exact h1⟩
      · have he : opsV (k + 1) = opsV k ++ [(k : Int)] := by simp [opsV, List.range_succ, List.filter_append, hcl, h0]
        have hrl : 0 < c.rows.length := by simpa [h0] using hcr
        have hrl' : (0 : Int) < c.rows.length := by omega
        rcases h1 with ⟨h2, rfl, rfl⟩ | ⟨rfl, h2, rfl⟩
        · simp [F15_spindleref2_Ops_b0, c1, c2, hrow, hrl, hrl', w1, JStep, fillV, reps, lay, ofDs, happ1]
          refine ⟨N - (k + 1), by omega, k + 1, by omega, rfl, _, ⟨rfl, rfl⟩, .inr ⟨?_, by simp [he], ?_⟩⟩
          · rw [he, h2]; simp [icl, ic]
          · rw [he, h2]; simp
        · have h3 := happ2 (.i .i64 k) (opsV k).length (icl (opsV k)) (icl_len _) (by omega)
          simp [F15_spindleref2_Ops_b0, c1, c2, hrow, hrl, hrl', w1, JStep, fillV, reps, lay, ofDs, h3]
          refine ⟨N - (k + 1), by omega, k + 1, by omega, rfl, _, ⟨rfl, rfl⟩, .inr ⟨?_, by simp [he], ?_⟩⟩
          · rw [he]; simp [icl, ic]
          · rw [he]; simp
    · have hkN : k = N := by omega
      subst hkN
      have c1 : ¬ (k : Int) < 256 := by omega
      have c2 : ¬ k < 256 := by omega
      simp [F15_spindleref2_Ops_b0, c1, c2, JStep]
      rw [hW]
      rcases h1 with ⟨h2, rfl, rfl⟩ | ⟨rfl, h2, rfl⟩
      · rw [h2]
        exact ⟨_, _, _, ⟨rfl, rfl⟩, rfl, by simp [isl, icl]⟩
      · have : 0 < (opsV k).length := List.length_pos_iff.2 h2
        exact ⟨_, _, _, ⟨rfl, rfl⟩, rfl, by simp [isl, this]⟩
  obtain ⟨v, e, s, rfl, hg, he⟩ := hQ
  simp [hg, he]
include hI hR hq hp hr in
theorem owns_both (x : Ins) : ∃ w r : List Int, w.length ≤ 1000 ∧ r.length ≤ 1000 ∧ (∀ st : St, st.floor = 0 → CallW pr 236 [.agg (ofDs x.cells)] st fun v s => NewL st s v w) ∧ (∀ st : St, st.floor = 0 → CallW pr 237 [.agg (ofDs x.cells)] st fun v s => NewL st s v r) ∧ (∀ st, den pr 86 [.agg (ofDs x.cells)] st = some (isl w, st)) ∧ ∀ st, den pr 87 [.agg (ofDs x.cells)] st = some (isl r, st) := by
  by_cases h0 : mayV x = 0
  · obtain ⟨op, c, h⟩ := may_at h0
    refine ⟨writesV c.form x, readsV c.form c.d.src x, writesV_len _ _, readsV_len c.form c.d.src x, fun st hf => callW_WritesR hI hq hf h h0, fun st hf => ?_, fun st => den_rWrites hR hr h h0, fun st => den_rReads hR hr h h0⟩
    rw [← reads_eq h h0]
    exact callW_ReadsR hI hq hp hf h h0
  · exact ⟨[], [], by simp, by simp, fun st hf => callW_WritesR_no hI hq hf h0, fun st hf => callW_ReadsR_no hI hq hf h0, fun st => den_rWrites_no hR hr h0, fun st => den_rReads_no hR hr h0⟩
include hn in
/-- A new list is the same as one that is data. -/
theorem callW_sameL {s : St} {v : V} {l : List Int} (h : NewL st s v l) (hl : l.length ≤ 1000) : CallW pr 16 [v, isl l] s fun r s' => s' = s ∧ r = .d (.b true) := by
  obtain ⟨j, h1, _⟩ := h
  exact callW_sameN hn h1.lst.1 (show Lst s 1 (isl l) (icl l) from ⟨rfl, by rw [icl_len, Nat.mul_one]⟩) (icl_k l) (by rw [icl_len]; omega)
omit hn in
theorem NuI.to {s s' : St} {p : Nat} {b : Nub} {lab : Nat → Option Nat} {fs : Fs} {pv : List (V × List D)} {al al' : List (Nat × List V)} (h : NuI s p b lab fs pv al) (hp : Hp 1 s' p b.R lab fs pv al') : NuI s' p b lab fs pv al' := ⟨hp, h.f1, h.f2, h.f3, h.f4, h.f5, h.ff, h.hh, h.kw, h.none, h.small, h.total⟩
include hn in
/-- A list is handed in to the book. -/
theorem callW_ownL {s : St} {b : Nub} {lab : Nat → Option Nat} {fs : Fs} {pv : List (V × List D)} {al : List (Nat × List V)} {v : V} {l : List Int} {j : Option Nat} (hl : LR s 1 v l.length (ofDs (icl l)) j) (hle : l.length ≤ 1000) (h : NuI s 0 b lab fs pv al) (hfr : b.fr.length ≤ 2) (ht : b.total ≤ 500000000000) (hk : b.kv.length ≤ 800000000)
    (hj : ∀ r, j = some r → Ap lab pv r ∧ ∀ x ∈ al, x.1 ≠ r) (mark : Int) : CallW pr 226 [.ptr 0 0, v, .d (.i .i64 mark)] s fun r s' => r = .tup [] ∧ ∃ b' lab' fs' pv', NuI s' 0 b' lab' fs' pv' al ∧ b'.fr.length ≤ 2 ∧ b'.total ≤ b.total + 1000 ∧ b'.kv.length ≤ b.kv.length + 18 := by
  refine callW_OwnN hn h hfr hl (fun r hr => ⟨hl.lt hr, .inr ⟨(hj r hr).1.1, (hj r hr).1.2, (hj r hr).2⟩⟩) (icl_k l) (by omega) (by omega) (by omega) ?_
  intro s' b' lab' fs' pv' h1 h2 h3 h4
  exact ⟨rfl, b', lab', fs', pv', h1, h2, by omega, h4⟩
include hn in
/-- Two new lists, one behind the other. -/
theorem callW_ownTwo {s s1 s2 : St} {b : Nub} {lab : Nat → Option Nat} {fs : Fs} {pv : List (V × List D)} {v v' : V} {l l' : List Int} (h : NuI s 0 b lab fs pv []) (h1 : NewL s s1 v l) (h2 : NewL s1 s2 v' l') (hle : l.length ≤ 1000) (hle' : l'.length ≤ 1000) (hfr : b.fr.length ≤ 2) (ht : b.total ≤ 400000000000) (hk : b.kv.length ≤ 700000000) (mark : Int) :
    CallW pr 226 [.ptr 0 0, v, .d (.i .i64 mark)] s2 fun r s3 => r = .tup [] ∧ ∀ mark' : Int, CallW pr 226 [.ptr 0 0, v', .d (.i .i64 mark')] s3 fun r s4 => r = .tup [] ∧ ∃ b' lab' fs' pv', NuI s4 0 b' lab' fs' pv' [] ∧ b'.fr.length ≤ 2 ∧ b'.total ≤ b.total + 2000 ∧ b'.kv.length ≤ b.kv.length + 36 := by
  obtain ⟨j, e1, g1, n1⟩ := h1
  obtain ⟨j', e2, g2, n2⟩ := h2
  have hp1 := h.hp.new g1 fun _ _ h => h
  have hp2 := hp1.new g2 fun _ _ h => h
  have e1' := e1.gr g2 fun _ _ h => h
  obtain ⟨al, hal, hall⟩ : ∃ al : List (Nat × List V), (∀ x ∈ al, j' = some x.1 ∧ s2.row x.1 = some x.2) ∧ ∀ r, j' = some r → ∃ c, (r, c) ∈ al := by
    cases hj : j' with
    | none => exact ⟨[], (fun x hx => by cases hx), (fun r hr => by cases hr)⟩
    | some r =>
      obtain ⟨tail, ht⟩ := e2.inRow hj
      refine ⟨[(r, ofDs (icl l') ++ tail)], fun x hx => ?_, fun r' hr' => ⟨ofDs (icl l') ++ tail, by obtain rfl := Option.some.inj hr'; exact List.mem_singleton_self _⟩⟩
      simp only [List.mem_singleton] at hx
      subst hx
      exact ⟨rfl, ht⟩
  have h3 : NuI s2 0 b lab fs pv al := h.to (hp2.alset fun x hx => ⟨(hal x hx).2, hp1.apNew (n2 x.1 (hal x hx).1)⟩)
  refine (callW_ownL hn e1' hle h3 hfr (by omega) (by omega) (fun r hr => ⟨h.hp.apNew (n1 r hr), fun x hx e => ?_⟩) mark).mono ?_
  · have := n2 x.1 (hal x hx).1
    have := e1.lt hr
    omega
  rintro _ s3 ⟨rfl, b', lab', fs', pv', h4, k1, k2, k3⟩
  refine ⟨rfl, fun mark' => ?_⟩
  have e3 : LR s3 1 v' l'.length (ofDs (icl l')) j' := e2.row fun r hr => by
    obtain ⟨c, hc⟩ := hall r hr
    rw [(h4.hp.al _ hc).1]
    exact ((hal _ hc).2).symm
  have h5 : NuI s3 0 b' lab' fs' pv' [] := h4.to (h4.hp.alset fun x hx => by cases hx)
  refine (callW_ownL hn e3 hle' h5 k1 (by omega) (by omega) (fun r hr => ?_) mark').mono ?_
  · obtain ⟨c, hc⟩ := hall r hr
    exact ⟨h4.hp.ap hc, fun x hx => by cases hx⟩
  rintro _ s4 ⟨rfl, b2, lab2, fs2, pv2, h6, k4, k5, k6⟩
  exact ⟨rfl, b2, lab2, fs2, pv2, h6, k4, by omega, by omega⟩
include hI hR hq hp hr hn hw ht
theorem law_IsaOwns (nz : Bool) (is : List Ins) (hl : is.length ≤ 1048576) {st : St} : CallW pr 227 [dsl Ins.cells nz is] st fun v s => s = st ∧ v = .d (.b true) := by
  refine .run0 wIO (ht.at 0 rfl) (by simp; rfl) rfl rfl (codeC_of ?_)
  have hu := dsl_d insC nz is
  have ha := fun st => den_awake2 hI hw (st := st)
  have hro := fun st => den_rOps (st := st) hR ht
  have hol := opsV_len 256
  obtain ⟨W, hW⟩ : ∃ W, W = opsV 256 := ⟨_, rfl⟩
  have hops : ∀ st : St, st.floor = 0 → CallW pr 238 [] st fun v s => NewL st s v W := fun st hf => by rw [hW]; exact callW_OpsR hI hq hf
  rw [← hW] at hol
  simp only [← hW] at hro
  obtain ⟨u, hU⟩ : ∃ u, u = dsl Ins.cells nz is := ⟨_, rfl⟩
  have hlen : lenV u = some is.length := by rw [hU]; rfl
  rw [← hU] at hu ⊢
  simp [F227_spindlelaw2_IsaOwns, wIO, ofDs, fillV, lay]
  refine loopW_j wIO (fun n e s => ∃ t b lab fs pv, t ≤ is.length ∧ n = is.length - t ∧ e = [(0, u), (3, .ptr 0 0), (4, .d (.i .i64 (t : Int)))] ∧ NuI s 0 b lab fs pv [] ∧ b.fr.length ≤ 2 ∧ b.total ≤ 8000 * t ∧ b.kv.length ≤ 200 * t) ?_ (n := is.length) ?_
  rotate_left
  · obtain ⟨s1, hs1⟩ : ∃ s1, s1 = s0 [.row [.d (.i .i64 0), .d (.i .i64 0), .d (.b false), .d (.sl 0 false []), .d (.sl 0 false []), .d (.sl 0 false []), .d (.sl 0 false []), .d (.sl 0 false [])]] [] 0 0 := ⟨_, rfl⟩
    have r1 : s1.row 0 = some [.d (.i .i64 0), .d (.i .i64 0), .d (.b false), .d (.sl 0 false []), .d (.sl 0 false []), .d (.sl 0 false []), .d (.sl 0 false []), .d (.sl 0 false [])] := by rw [hs1]; rfl
    have hf1 : s1.floor = 0 := by rw [hs1]; rfl
    have hlab : ∀ a r, (fun a => if a = 0 then some 0 else none : Nat → Option Nat) a = some r → a = 0 ∧ r = 0 := fun a r h => by
      simp only at h
      split at h
      · exact ⟨by assumption, (Option.some.inj h).symm⟩
      · cases h
    have h0 : Hp 1 s1 0 [.d (.i .i64 0), .d (.i .i64 0), .d (.b false), .d (.sl 0 false []), .d (.sl 0 false []), .d (.sl 0 false []), .d (.sl 0 false []), .d (.sl 0 false [])] (fun a => if a = 0 then some 0 else none) (fun _ => none) [] [] := by
      refine ⟨hf1, r1, rfl, rfl, fun a x hx => (by cases hx), ⟨fun a r h => ?_, fun a c r ha hc => ?_⟩, fun x hx => (by cases hx), fun x hx => (by cases hx)⟩
      · rw [(hlab a r h).2]; exact row_lt r1
      · rw [(hlab a r ha).1, (hlab c r hc).1]
    have h1 := ((((h0.nil (a := 1) (by omega) (sz := 1)).nil (a := 2) (by omega) (sz := 1)).nil (a := 3) (by omega) (sz := 1)).nil (a := 4) (by omega) (sz := 1)).nil (a := 5) (by omega) (sz := 1)
    rw [← hs1]
    refine ⟨0, ⟨0, 0, .d (.sl 0 false []), .d (.sl 0 false []), .d (.sl 0 false []), .d (.sl 0 false []), .d (.sl 0 false []), [], [], [], [], []⟩, _, _, [], Nat.zero_le _, rfl, by simp, ⟨h1, ?_, ?_, ?_, ?_, ?_, fun i x hx => (by cases hx), fun i x y hx => (by cases hx), fun i x y hx => (by cases hx), ?_, ⟨by simp, by simp⟩, ⟨by simp, by simp⟩⟩, by simp, by simp, by simp⟩
    · rw [updF_ne (by omega), updF_ne (by omega), updF_ne (by omega), updF_ne (by omega), updF_eq]; rfl
    · rw [updF_ne (by omega), updF_ne (by omega), updF_ne (by omega), updF_eq]; rfl
    · rw [updF_ne (by omega), updF_ne (by omega), updF_eq]; rfl
    · rw [updF_ne (by omega), updF_eq]; rfl
    · rw [updF_eq]; rfl
    · intro a ha
      have ha : 6 ≤ a := by simpa using ha
      rw [upd_ne (by omega), upd_ne (by omega), upd_ne (by omega), upd_ne (by omega), upd_ne (by omega), updF_ne (by omega), updF_ne (by omega), updF_ne (by omega), updF_ne (by omega), updF_ne (by omega)]
      exact ⟨if_neg (by omega), rfl⟩
  rintro n e s ⟨t, b, lab, fs, pv, htl, rfl, rfl, hN, hfr, htot, hkv⟩
  rcases Nat.lt_or_ge t is.length with hlt | hge
  rotate_left
  · have : t = is.length := by omega
    subst this
    simp [F227_spindlelaw2_IsaOwns_b0, wIO, hlen]
    refine (hops s hN.hp.fl).mono ?_
    intro v s1 hv
    simp [wIO, hro]
    refine (callW_sameL hn hv (by omega)).mono ?_
    rintro _ _ ⟨rfl, rfl⟩
    obtain ⟨_, _, g1, _⟩ := hv
    have hN1 := hN.to (hN.hp.new g1 fun _ _ h => h)
    simp [wIO]
    refine (callW_HoldsT1 hn hN1).mono ?_
    rintro _ _ ⟨rfl, rfl⟩
    simp [wIO, ha, FinW]
  obtain ⟨x, hx⟩ : ∃ x, is[t]? = some x := ⟨_, List.getElem?_eq_getElem hlt⟩
  have w1 : IntKind.wrap .i64 ((t : Int) + 1) = (t : Int) + 1 := wrap_i64 (by omega) (by omega)
  have hia := hu.iaddr (i := (t : Int)) (k := .i64) (by omega) (by simp; omega)
  have hld := fun st => hu.load (st := st) (i := t) (o := 0) (n := 5) (agg := true) (el := x.cells) (by simp [hx]) (by omega) (by omega)
  obtain ⟨w, r, hwl, hrl, kw, kr, dw, dr⟩ := owns_both hI hR hq hp hr x
  simp at hia hld
  obtain ⟨xa, hxa⟩ : ∃ xa, xa = V.agg (ofDs x.cells) := ⟨_, rfl⟩
  obtain ⟨P, hP⟩ : ∃ P, P = elP 5 u t 0 := ⟨_, rfl⟩
  rw [← hP] at hia hld
  simp only [← hxa] at kw kr dw dr
  have hld : ∀ st, loadV 5 true st P = some xa := fun st => (hld st).trans (by rw [hxa]; rfl)
  simp [F227_spindlelaw2_IsaOwns_b0, wIO, hlen, hlt]
  refine loopW_j wIO (fun n e s => ∃ k b lab fs pv, k ≤ 3 ∧ n = 3 - k ∧ e = [(0, u), (3, .ptr 0 0), (4, .d (.i .i64 (t : Int))), (5, .d (.i .i64 ((k : Nat) : Int)))] ∧ NuI s 0 b lab fs pv [] ∧ b.fr.length ≤ 2 ∧ b.total ≤ 8000 * t + 2000 * k ∧ b.kv.length ≤ 200 * t + 36 * k) ?_ (n := 3) ⟨0, b, lab, fs, pv, by omega, rfl, by simp, hN, hfr, by omega, by omega⟩
  rintro n e s ⟨k, b, lab, fs, pv, hk, rfl, rfl, hN, hfr, htot, hkv⟩
  by_cases hk3 : k < 3
  · have c1 : (k : Int) < 3 := by omega
    have wk : IntKind.wrap .i64 ((k : Int) + 1) = (k : Int) + 1 := wrap_i64 (by omega) (by omega)
    simp [F227_spindlelaw2_IsaOwns_b1, wIO, hk3, c1, hia, hld]
    refine (kw s hN.hp.fl).mono ?_
    intro v1 s1 h1
    have f1 : s1.floor = 0 := by obtain ⟨_, _, g, _⟩ := h1; exact g.floor.trans hN.hp.fl
    simp [wIO, hia, hld]
    refine (kr s1 f1).mono ?_
    intro v2 s2 h2
    have h1' : NewL s s2 v1 w := by
      obtain ⟨j, a1, a2, a3⟩ := h1
      obtain ⟨_, _, g2, _⟩ := h2
      exact ⟨j, a1.gr g2 fun _ _ h => h, a2.trans g2, a3⟩
    simp [wIO, hia, hld, dw]
    refine (callW_sameL hn h1' hwl).mono ?_
    rintro _ _ ⟨rfl, rfl⟩
    simp [wIO, hia, hld, dr]
    refine (callW_sameL hn h2 hrl).mono ?_
    rintro _ _ ⟨rfl, rfl⟩
    simp [wIO]
    refine (callW_ownTwo hn hN h1 h2 hwl hrl hfr (by omega) (by omega) _).mono ?_
    rintro _ s3 ⟨rfl, h3⟩
    simp [wIO]
    refine (h3 _).mono ?_
    rintro _ s4 ⟨rfl, b', lab', fs', pv', hN', k1, k2, k3⟩
    simp [wIO, wk]
    exact ⟨3 - (k + 1), by omega, k + 1, by omega, rfl, rfl, b', ⟨lab', fs', pv', hN'⟩, k1, by omega, by omega⟩
  have hk3 : k = 3 := by omega
  subst hk3
  have htm : (t : Int).tmod 8 = (t : Int) % 8 := Int.tmod_eq_emod_of_nonneg (by omega)
  by_cases ht3 : t < 3
  · have c3 : (t : Int) < 3 := by omega
    simp [F227_spindlelaw2_IsaOwns_b1, wIO, ht3, c3]
    refine (hops s hN.hp.fl).mono ?_
    intro v1 s1 h1
    simp [wIO, hro]
    refine (callW_sameL hn h1 (by omega)).mono ?_
    rintro _ _ ⟨rfl, rfl⟩
    obtain ⟨j, a1, a2, a3⟩ := h1
    have hN1 := hN.to (hN.hp.new a2 fun _ _ h => h)
    simp [wIO]
    refine (callW_ownL hn a1 (by omega) hN1 hfr (by omega) (by omega) (fun r hr => ⟨hN.hp.apNew (a3 r hr), fun x hx => by cases hx⟩) _).mono ?_
    rintro _ s3 ⟨rfl, b', lab', fs', pv', hN', k1, k2, k3⟩
    have ht7 : ¬ (t : Int).tmod 8 = 7 := by rw [htm]; omega
    simp [wIO, ht7, w1]
    exact ⟨is.length - (t + 1), by omega, t + 1, by omega, rfl, rfl, b', ⟨lab', fs', pv', hN'⟩, k1, by omega, by omega⟩
  · have c3 : ¬ (t : Int) < 3 := by omega
    simp [F227_spindlelaw2_IsaOwns_b1, wIO, ht3, c3]
    by_cases ht7 : (t : Int).tmod 8 = 7
    · simp [wIO, ht7, w1]
      refine (callW_HoldsT1 hn hN).mono ?_
      rintro _ _ ⟨rfl, rfl⟩
      simp [wIO, w1]
      exact ⟨is.length - (t + 1), by omega, t + 1, by omega, rfl, rfl, b, ⟨lab, fs, pv, hN⟩, hfr, by omega, by omega⟩
    · simp [wIO, ht7, w1]
      exact ⟨is.length - (t + 1), by omega, t + 1, by omega, rfl, rfl, b, ⟨lab, fs, pv, hN⟩, hfr, by omega, by omega⟩
end
end Go.Sh
