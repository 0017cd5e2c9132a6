/- The law IsaTells on shadow runs. -/
import Derived.Test.YtnemobbnlacmjaaDoorShLisaRegsW
import Derived.Test.YtnemobbnlacmjaaDoorShLisaMayLaw
set_option linter.unusedVariables false
set_option linter.unusedSimpArgs false
namespace Go.Sh
theorem reads_small : ∀ d s : Fin 11, ∀ bz bd bs : Bool, ddp (srt ((if bz = true then [0] else []) ++ ((if bd = true then [(d.1 : Int)] else []) ++ (if bs = true then [(s.1 : Int)] else [])))) = marked (fun i => bd && decide (i = d.1) || bz && decide (i = 0) || bs && decide (i = s.1)) 11 := by decide +kernel
theorem cls_none : ∀ c ∈ classes, c.e = 0 → c.form = 1 → c.d.src = false := by decide +kernel
theorem reads_eq {x : Ins} {op : Nat} {c : OpC} (h : MayAt x op c) (h0 : mayV x = 0) : readsI c.form c.d.src x = readsV c.form c.d.src x := by
  have hn := cls_none c h.mem h.e
  have hr := may_range h0
  unfold readsI readsV
  by_cases f9 : c.form = 9
  · rw [if_pos f9, if_pos f9]
  rw [if_neg f9, if_neg f9]
  obtain ⟨iop, dst, src, off, imm⟩ := x
  simp only at hr
  obtain ⟨d, rfl⟩ : ∃ d : Nat, dst = d := ⟨dst.toNat, by omega⟩
  obtain ⟨s, rfl⟩ : ∃ s : Nat, src = s := ⟨src.toNat, by omega⟩
  have hie : ∀ i j : Nat, ((i : Int) = (j : Int)) ↔ i = j := fun i j => by omega
  by_cases f1 : c.form = 1
  · rw [if_pos f1, hn f1, f1]
    rw [show readM 1 false _ = fun i => decide (i = 0) from funext fun i => by simp [readM]]
    decide
  rw [if_neg f1]
  have := reads_small ⟨d, by omega⟩ ⟨s, by omega⟩ (decide (c.form = 6 ∧ imm = 241)) (decide (c.form = 6 ∨ c.form = 5 ∨ c.form = 8 ∨ c.form = 2 ∨ c.form = 3 ∧ isMov ⟨iop, d, s, off, imm⟩ = false)) c.d.src
  simp only [decide_eq_true_eq] at this
  unfold outV
  rw [this]
  congr 1
  funext i
  unfold readM
  generalize c.d.src = us
  generalize isMov _ = mv
  generalize c.form = f at *
  simp only [hie, f1, decide_false, Bool.false_and, Bool.or_false]
  by_cases f3 : f = 3
  · subst f3
    cases mv <;> cases us <;> simp
  by_cases f2 : f = 2
  · subst f2
    cases us <;> simp
  by_cases f5 : f = 5
  · subst f5
    cases us <;> simp
  by_cases f8 : f = 8
  · subst f8
    cases us <;> simp
  by_cases f6 : f = 6
  · subst f6
    by_cases hi : imm = 241 <;> cases us <;> simp [hi] <;> (generalize decide (i = d) = a; generalize decide (i = s) = b; generalize decide (i = 0) = z; cases a <;> cases b <;> cases z <;> rfl)
  · simp [f2, f3, f5, f6, f8]
def lawTFns : List (Nat × SFn) := [(90, F90_spindlelaw2_IsaTells), (16, F16_spindlelaw0_SameInts)]
/-- Lists of numbers of which a function tells that they are alike. -/
theorem den_sameInts {pr : Prog} (hf : pr.fn 16 = some F16_spindlelaw0_SameInts) (l : List Int) (hl : l.length ≤ 1000) {st : St} : den pr 16 [isl l, isl l] st = some (.d (.b true), st) := by
  refine den_shut hf rfl rfl (by simp; rfl) ?_
  have hu := isl_d l
  have hlen : lenV (isl l) = some l.length := rfl
  simp [F16_spindlelaw0_SameInts, hlen]
  generalize hL : cden pr (.loop _ _ _) _ _ = o
  obtain ⟨r, rfl, hQ⟩ : ∃ r, o = some r ∧ ∃ e, r = (.exit 0, e, s0 [] [] 0 0) := by
    rw [← hL]
    refine loop_n l.length (fun i => [(0, isl l), (1, isl l), (5, .d (.i .i64 i))]) (fun _ => s0 [] [] 0 0) ?_ (by simp) (by simp)
    intro i hi
    rcases Nat.lt_or_ge i l.length with h | h
    · obtain ⟨x, hx⟩ : ∃ x, l[i]? = some x := ⟨_, List.getElem?_eq_getElem h⟩
      have h1 : IntKind.wrap .i64 ((i : Int) + 1) = i + 1 := wrap_i64 (by omega) (by omega)
      have hia := hu.iaddr (i := (i : Int)) (k := .i64) (by omega) (by simp; omega)
      have hld := fun st => hu.load (st := st) (i := i) (o := 0) (n := 1) (agg := false) (el := ic x) (by simp [hx]) (by omega) (by omega)
      simp [ic, ofDs] at hia hld
      simp [F16_spindlelaw0_SameInts_b0, hlen, h, hia, hld, h1]
    · have hil : i = l.length := by omega
      simp [F16_spindlelaw0_SameInts_b0, hlen, hil]
  obtain ⟨e, rfl⟩ := hQ
  simp
theorem readsV_len (f : Int) (us : Bool) (x : Ins) : (readsV f us x).length ≤ 1000 := by
  unfold readsV
  split
  · unfold callV
    split
    · simp
    · split
      · simp
      · split <;> simp
  · exact Nat.le_trans (marked_len _ _) (by omega)
theorem writesV_len (f : Int) (x : Ins) : (writesV f x).length ≤ 1000 := by
  unfold writesV
  repeat' split
  all_goals simp
/-- What the program and the document's answer tell of an instruction. -/
structure Tells (pr : Prog) (x : Ins) (w r : List Int) : Prop where
  hw : ∀ st, den pr 82 [.agg (ofDs x.cells)] st = some (isl w, st)
  hr : ∀ st, CallW pr 83 [.agg (ofDs x.cells)] st fun v s => s = st ∧ v = isl r
  wl : w.length ≤ 1000
  rl : r.length ≤ 1000
structure RTells (pr : Prog) (x : Ins) (w r : List Int) (j : Int) : Prop where
  hw : ∀ st, den pr 86 [.agg (ofDs x.cells)] st = some (isl w, st)
  hr : ∀ st, den pr 87 [.agg (ofDs x.cells)] st = some (isl r, st)
  hj : ∀ st, den pr 88 [.agg (ofDs x.cells)] st = some (.d (.i .i64 j), st)
section
variable {pr : Prog} (hI : IsaOk pr) (hR : RefOk pr) (hp : Sub regFns pr) (hj : Sub jwFns pr) (hr : Sub rrefFns pr) (hrj : Sub rjFns pr)
include hI hp
theorem tells (x : Ins) : ∃ w r, Tells pr x w r ∧ ((mayV x ≠ 0 ∧ w = [] ∧ r = []) ∨ ∃ op c, MayAt x op c ∧ mayV x = 0 ∧ w = writesV c.form x ∧ r = readsV c.form c.d.src x) := by
  by_cases h0 : mayV x = 0
  · obtain ⟨op, c, h⟩ := may_at h0
    refine ⟨_, _, ⟨fun st => den_Writes hI hp h h0, fun st => ?_, writesV_len _ _, readsV_len c.form c.d.src x⟩, .inr ⟨op, c, h, h0, rfl, rfl⟩⟩
    rw [← reads_eq h h0]
    exact callW_Reads hI hp h h0
  · exact ⟨[], [], ⟨fun st => den_Writes_no hI hp h0, fun st => callW_Reads_no hI hp h0, by simp, by simp⟩, .inl ⟨h0, rfl, rfl⟩⟩
include hj hR hr hrj
theorem tells_both (x : Ins) : ∃ w r j, Tells pr x w r ∧ (∀ st, den pr 84 [.agg (ofDs x.cells)] st = some (.d (.i .i64 j), st)) ∧ RTells pr x w r j := by
  obtain ⟨w, r, h, ⟨h0, rfl, rfl⟩ | ⟨op, c, hm, h0, rfl, rfl⟩⟩ := tells hI hp x
  · exact ⟨_, _, _, h, fun st => den_Jumps_no hI hj h0, fun st => den_rWrites_no hR hr h0, fun st => den_rReads_no hR hr h0, fun st => den_rJumps_no hR hrj h0⟩
  · exact ⟨_, _, _, h, fun st => den_Jumps hI hj hm h0, fun st => den_rWrites hR hr hm h0, fun st => den_rReads hR hr hm h0, fun st => den_rJumps hR hrj hm h0⟩
def wTells : Nat → Bool := fun f => f == 83
theorem law_IsaTells (hw : Sub awFns pr) (ht : Sub lawTFns pr) (nz : Bool) (is : List Ins) (hl : is.length ≤ 9223372036854775806) {st : St} : CallW pr 90 [dsl Ins.cells nz is] st fun v s => s = st ∧ v = .d (.b true) := by
  refine .run0 wTells (ht.at 0 rfl) (by simp; rfl) rfl rfl (codeC_of ?_)
  have hu := dsl_d insC nz is
  have ha := fun st => den_awake2 hI hw (st := st)
  simp [F90_spindlelaw2_IsaTells]
  refine loopW_n wTells is.length (fun i => [(0, dsl Ins.cells nz is), (3, .d (.i .i64 i))]) (fun _ => s0 [] [] 0 0) ?_ (by simp) (by simp)
  intro i hi
  rcases Nat.lt_or_ge i is.length with h | h
  · obtain ⟨x, hx⟩ : ∃ x, is[i]? = some x := ⟨_, List.getElem?_eq_getElem h⟩
    have h1 : IntKind.wrap .i64 ((i : Int) + 1) = i + 1 := wrap_i64 (by omega) (by omega)
    have hia := hu.iaddr (i := (i : Int)) (k := .i64) (by omega) (by simp; omega)
    have hld := fun st => hu.load (st := st) (i := i) (o := 0) (n := 5) (agg := true) (el := x.cells) (by simp [hx]) (by omega) (by omega)
    obtain ⟨w, r, j, hT, hTj, hRT⟩ := tells_both hI hR hp hj hr hrj x
    have hs1 := fun st => den_sameInts (pr := pr) (ht.at 1 rfl) w hT.wl (st := st)
    have hs2 := fun st => den_sameInts (pr := pr) (ht.at 1 rfl) r hT.rl (st := st)
    have hw1 := fun st => den_Wide hj x (st := st)
    have hw2 := fun st => den_rWide hrj x (st := st)
    have hla : lay [V.d (.i .i64 0), .d (.i .i64 0), .d (.i .i64 0), .d (.i .i64 0), .d (.i .i64 0)] 0 (ofDs x.cells) = ofDs x.cells := rfl
    have hRw := hRT.hw
    have hRr := hRT.hr
    have hRj := hRT.hj
    have hTw := hT.hw
    have hTr := hT.hr
    have hag : ∃ ci : List V, ofDs x.cells = ci ∧ ci.length = 5 := ⟨_, rfl, rfl⟩
    obtain ⟨ci, hci, hl5⟩ := hag
    have hz : lay [V.d (.i .i64 0), .d (.i .i64 0), .d (.i .i64 0), .d (.i .i64 0), .d (.i .i64 0)] 0 ci = ci := by rw [← hci]; rfl
    have htk : ci.take 5 = ci := List.take_of_length_le (by omega)
    rw [hci] at hTw hTr hTj hRw hRr hRj hw1 hw2
    have hld' : ∀ st, loadV 5 true st (elP 5 (dsl Ins.cells nz is) i 0) = some (.agg ci) := fun st => by
      rw [hld st, List.drop_zero, ins_take, hci]
      rfl
    simp at hia
    simp [F90_spindlelaw2_IsaTells_b0, h, hia, hld', h1, hTw, wTells, ofDs, hz, htk, hl5]
    refine (hTr _).mono ?_
    rintro v s ⟨rfl, rfl⟩
    simp [h1, wTells, hTj, hRw, hRr, hRj, hs1, hs2, hw1, hw2, ofDs, hz, htk, hl5, h]
  · have hil : i = is.length := by omega
    simp [F90_spindlelaw2_IsaTells_b0, hil, ha, wTells]
end
end Go.Sh
