/- Code's laws: CodeDecodes. -/
import Derived.Test.YtnemobbnlacmjaaDoorShLcodeS
set_option linter.unusedVariables false
set_option linter.unusedSimpArgs false
namespace Go.Sh
def lawDFns : List (Nat × SFn) := [(12, F12_spindlelaw0_Num), (215, F215_spindlelaw3_CodeDecodes), (69, F69_spindlelaw3_awake)]
def wD : Nat → Bool := fun f => f == 212 || f == 72 || f == 9 || f == 214
/-- The law's state between two rounds. -/
structure DI (s : St) (B : V) (N : Int) (jl : Option Nat) (cl : List V) (b : Shb) (lab : Nat → Option Nat) (fs : Fs) (pv : List (V × List D)) : Prop where
  ln : LnI s 0 B N jl
  sh : ShI s 1 b lab fs pv ((0, [B, .d (.i .i64 N)]) :: alo jl cl)
  buf : ∀ r, jl = some r → B = .rsl 1 r 0 cl.length cl.length ∧ cl.length ≤ 274877906944
theorem dcA_len : ∀ (n : Nat) (l : List UInt8), l.length = n → ∀ (acc0 : List Ins) (k : Nat) (acc : List Ins) (q e : Int), dcA acc0 k l = (acc, q, e) → 8 * acc.length ≤ 8 * acc0.length + l.length := by
  intro n
  induction n using Nat.strongRecOn with
  | ind n ih =>
    intro l hl acc0 k acc q e h
    rw [dcA] at h
    split at h
    · simp only [Prod.mk.injEq] at h
      obtain ⟨rfl, _⟩ := h
      omega
    · rename_i hne
      split at h
      · simp only [Prod.mk.injEq] at h
        obtain ⟨rfl, _⟩ := h
        simp
      · rename_i he
        have hw := firstOf_w (Decidable.not_not.1 he)
        have hp := slotW_pos l
        have := ih (l.drop (8 * slotW l)).length (by simp; omega) _ rfl _ _ _ _ _ h
        simp only [List.length_drop, List.length_append, List.length_singleton] at this
        omega
section
variable {pr : Prog} (hI : IsaOk pr) (hR : RefOk pr) (hp : Sub codeFns pr) (hd : Sub refDFns pr) (ht : Sub turnBFns pr) (hn : Sub lendFns pr) (hh : Sub shiFns pr) (hw : Sub lawDFns pr) (haw : ∀ st, den pr 69 [] st = some (.d (.b true), st)) {st : St}
include hw
theorem den_numD (x : Int) : den pr 12 [.d (.i .i64 x)] st = some (.d (.i .i64 x), st) := den_shut (hw.at 0 rfl) rfl rfl (by simp; rfl) (by simp [F12_spindlelaw0_Num])
include hI hp in
theorem den_awakeD : den pr 69 [] st = some (.d (.b true), st) := by
  refine den_shut (hw.at 2 rfl) rfl rfl (by simp; rfl) ?_
  have h1 := fun st => den_Encode hI hp (st := st) (v := .d (.sl 1 true [.i .i64 149, .i .i64 0, .i .i64 0, .i .i64 0, .i .i64 0])) (is := [⟨149, 0, 0, 0, 0⟩]) (SlC.of_sl (map_sz insC _) rfl rfl) (by simp)
  have h2 := fun st => den_Decode hI hp (st := st) (v := .d (.sl 8 true [.i .u8 149, .i .u8 0, .i .u8 0, .i .u8 0, .i .u8 0, .i .u8 0, .i .u8 0, .i .u8 0])) (l := [149, 0, 0, 0, 0, 0, 0, 0]) (SlC.of_sl (byC_1 _) rfl rfl) (by simp) (by
    have := dcCnt_le [149, 0, 0, 0, 0, 0, 0, 0]
    simp at this
    omega)
  rw [enc149] at h1
  rw [dec149] at h2
  have hnum := fun x st => den_numD (pr := pr) hw (st := st) x
  simp [F69_spindlelaw3_awake, fillV, lay, ofDs, reps, h1, h2, hnum, iaddrV, eqV, eqDs, eqK]
include hI hR hp hd ht hn hh haw
theorem law_CodeDecodes {nz : Bool} {L : List UInt8} (hL : L.length ≤ 1048576) : CallW pr 215 [bsl nz L] st fun v s => s = st ∧ v = .d (.b true) := by
  obtain ⟨u, hu⟩ : ∃ u, u = bsl nz L := ⟨_, rfl⟩
  rw [← hu]
  refine .run0 wD (hw.at 1 rfl) (show closeA [u] = some [u] by rw [hu]; rfl) rfl rfl (codeC_of ?_)
  have num := fun st x => den_numD hw (st := st) x
  simp [F215_spindlelaw3_CodeDecodes, haw, ofDs]
  refine loopW_j wD (fun n e s => ∃ t : Nat, ∃ B N jl cl b lab fs pv, t ≤ 4 ∧ n = 4 - t ∧ e = [(0, u), (3, .ptr 0 0), (4, .ptr 1 0), (5, .d (.i .i64 t))] ∧ DI s B N jl cl b lab fs pv ∧ b.fr.length ≤ 2 ∧ b.total ≤ 262144 * t ∧ b.kv.length ≤ 12 * t) ?_ (n := 4) ?_
  rotate_left
  · obtain ⟨s1, hs1⟩ : ∃ s1, s1 = s0 [.row [.d (.sl 0 false []), .d (.i .i64 0)], .row [.d (.i .i64 0), .d (.i .i64 0), .d (.b false), .d (.sl 0 false []), .d (.sl 0 false []), .d (.sl 0 false []), .d (.sl 0 false [])]] [] 0 0 := ⟨_, rfl⟩
    have r0 : s1.row 0 = some [.d (.sl 0 false []), .d (.i .i64 0)] := by rw [hs1]; rfl
    have r1 : s1.row 1 = some [.d (.i .i64 0), .d (.i .i64 0), .d (.b false), .d (.sl 0 false []), .d (.sl 0 false []), .d (.sl 0 false []), .d (.sl 0 false [])] := by rw [hs1]; rfl
    have hf1 : s1.floor = 0 := by rw [hs1]; rfl
    have hlab : ∀ a r, (fun a => if a = 0 then some 1 else none : Nat → Option Nat) a = some r → a = 0 ∧ r = 1 := fun a r h => by
      simp only at h
      split at h
      · exact ⟨by assumption, (Option.some.inj h).symm⟩
      · cases h
    have h0 : Hp 5 s1 1 [.d (.i .i64 0), .d (.i .i64 0), .d (.b false), .d (.sl 0 false []), .d (.sl 0 false []), .d (.sl 0 false []), .d (.sl 0 false [])] (fun a => if a = 0 then some 1 else none) (fun _ => none) [] [(0, [.d (.sl 0 false []), .d (.i .i64 0)])] := by
      refine ⟨hf1, r1, rfl, rfl, fun a x hx => (by cases hx), ⟨fun a r h => ?_, fun a c r ha hc => ?_⟩, fun x hx => (by cases hx), fun x hx => ?_⟩
      · rw [(hlab a r h).2]; exact row_lt r1
      · rw [(hlab a r ha).1, (hlab c r hc).1]
      · simp only [List.mem_singleton] at hx
        subst hx
        exact ⟨r0, fun a h => by have := (hlab a 0 h).2; omega, fun y hy => by cases hy⟩
    have h1 := (((h0.nil (a := 1) (by omega) (sz := 1)).nil (a := 2) (by omega) (sz := 1)).nil (a := 4) (by omega) (sz := 1)).nil (a := 5) (by omega) (sz := 1)
    rw [← hs1]
    refine ⟨0, .d (.sl 0 false []), 0, none, [], ⟨0, 0, .d (.sl 0 false []), .d (.sl 0 false []), .d (.sl 0 false []), .d (.sl 0 false []), [], [], [], []⟩, _, _, [], by omega, rfl, by simp, ⟨⟨hf1, r0, .inl ⟨rfl, rfl⟩⟩, ⟨h1, ?_, ?_, ?_, ?_, fun i x hx => (by cases hx), fun i x y hx => (by cases hx), fun i x y hx => (by cases hx), ?_, ⟨by simp, by simp⟩, ⟨by simp, by simp⟩⟩, fun r hr => (by cases hr)⟩, by simp, by simp, by simp⟩
    · rw [updF_ne (by omega), updF_ne (by omega), updF_ne (by omega), updF_eq]; rfl
    · rw [updF_ne (by omega), updF_ne (by omega), updF_eq]; rfl
    · rw [updF_ne (by omega), updF_eq]; rfl
    · rw [updF_eq]; rfl
    · intro a ha
      have ha : 6 ≤ a := by simpa using ha
      rw [upd_ne (by omega), upd_ne (by omega), upd_ne (by omega), upd_ne (by omega), updF_ne (by omega), updF_ne (by omega), updF_ne (by omega), updF_ne (by omega)]
      exact ⟨if_neg (by omega), rfl⟩
  rintro n e s ⟨t, B, N, jl, cl, b, lab, fs, pv, ht4, rfl, rfl, hD, hfr, htot, hkv⟩
  rcases Nat.lt_or_ge t 4 with hlt | hge
  rotate_left
  · have : t = 4 := by omega
    subst this
    simp [F215_spindlelaw3_CodeDecodes_b0, wD]
  have hltI : (t : Int) ≤ 3 := by omega
  have w1 : IntKind.wrap .i64 ((t : Int) + 1) = t + 1 := wrap_i64 (by omega) (by omega)
  simp [F215_spindlelaw3_CodeDecodes_b0, wD, hltI]
  rw [hu]
  refine (callW_turnedB ht (nz := nz) (L := L) (by omega) (t : Int)).mono ?_
  rintro v s' ⟨rfl, M, nz', rfl, hMl⟩
  rw [← hu]
  simp [wD]
  have hcn := dcCnt_le M
  have hdec := fun st => den_refDecode hR hd (st := st) (bsl_c nz' M) (by omega) (by omega)
  obtain ⟨acc, q, e, hda⟩ : ∃ acc q e, dcA [] 0 M = (acc, q, e) := ⟨_, _, _, rfl⟩
  rw [hda] at hdec
  have hal := dcA_len _ M rfl _ _ _ _ _ hda
  simp only [List.length_nil, Nat.mul_zero, Nat.zero_add] at hal
  obtain ⟨WV, hWV⟩ : ∃ WV, WV = dsl Ins.cells (decide (0 < acc.length)) acc := ⟨_, rfl⟩
  have hdec : ∀ st, den pr 213 [bsl nz' M] st = some (.tup [WV, .d (.i .i64 q), .d (.i .i64 e)], st) := fun st => by rw [hWV]; exact hdec st
  have hWL : ∀ s, Lst s 5 WV (acc.map Ins.cells).flatten := fun s => by rw [hWV]; exact ⟨rfl, map_flat_len insC acc⟩
  have hkI := kindI acc
  have hcl5 := map_flat_len insC acc
  -- lent
  have hap0 : Ap lab pv 0 := hD.sh.hp.ap (x := (0, [B, .d (.i .i64 N)])) List.mem_cons_self
  have hapj : ∀ r, jl = some r → Ap lab pv r := fun r hr => hD.sh.hp.ap (x := (r, cl)) (List.mem_cons_of_mem _ (mem_alo.2 ⟨hr, rfl⟩))
  obtain ⟨s1, r, c, hlend, hlent, hjr, kp1, hcl⟩ := den_Lend hn hD.ln (nz := nz') (L := M) (by omega) (fun r c hrow hB => by
    obtain ⟨_, _, h3⟩ := hD.ln
    rcases h3 with ⟨_, hB'⟩ | ⟨r', c', hj, hB', hr', _⟩
    · rw [hB'] at hB; cases hB
    · obtain ⟨h4, h5⟩ := hD.buf r' hj
      rw [h4] at hB
      simp only [V.rsl.injEq] at hB
      omega)
  obtain ⟨BUF, hBUF⟩ : ∃ BUF, BUF = wrow (lcell M) c (2 * M.length + 70) := ⟨_, rfl⟩
  have hbuf := hlent.buf
  rw [← hBUF] at hbuf
  have hBl : BUF.length = c.length := by rw [hBUF]; exact wrow_len hlent.len
  obtain ⟨BV1, hBV1⟩ : ∃ BV1, BV1 = V.rsl 1 r 0 c.length c.length := ⟨_, rfl⟩
  have hrow1 := hlent.row
  rw [← hBV1] at hrow1
  have hapr : Ap lab pv r := by
    rcases hjr with e1 | e1
    · exact hapj r e1
    · exact hD.sh.hp.apNew e1
  have sh1 : ShI s1 1 b lab fs pv [(0, [BV1, .d (.i .i64 M.length)]), (r, BUF)] := hD.sh.to (hD.sh.hp.kp kp1 (fun i _ hi => by
    rcases hi with rfl | hi
    · exact hap0
    · exact hapj i hi) fun x hx => by
    simp only [List.mem_cons, List.not_mem_nil, or_false] at hx
    rcases hx with rfl | rfl
    · exact ⟨hrow1, hap0⟩
    · exact ⟨hbuf, hapr⟩)
  have hG : Lst s1 1 (.rsl 1 r 0 M.length (2 * M.length + 70)) (byteCells M) := ⟨rfl, rfl, by simp [byteCells], BUF, hbuf, by have := hlent.len; omega, by rw [hBUF, Nat.mul_one, wrow_take (by omega), lcell_bytes]⟩
  obtain ⟨G, hGv⟩ : ∃ G, G = V.rsl 1 r 0 M.length (2 * M.length + 70) := ⟨_, rfl⟩
  rw [← hGv] at hlend hG
  simp [wD, hdec, hlend]
  -- read twice
  refine (callW_Decode hI hp hG (by omega) hda).mono ?_
  rintro _ s2 ⟨v1, j1, c1, rfl, hl1, hs2⟩
  have g12 : Gr s1 s2 (fun _ => False) (fun _ => True) := by
    rcases hs2 with ⟨_, rfl⟩ | ⟨_, rfl⟩
    · exact .refl _ _ _
    · exact .push _
  simp [wD]
  refine (callW_Decode hI hp (hG.gr g12 fun _ _ h => h) (by omega) hda).mono ?_
  rintro _ s3 ⟨v2, j2, c2, rfl, hl2, hs3⟩
  have g23 : Gr s2 s3 (fun _ => False) (fun _ => True) := by
    rcases hs3 with ⟨_, rfl⟩ | ⟨_, rfl⟩
    · exact .refl _ _ _
    · exact .push _
  have hj1 : ∀ x, j1 = some x → s1.heap.length = x ∧ s2.row x = some c1 ∧ s2.heap.length = x + 1 := fun x hx => by
    rcases hs2 with ⟨e1, _⟩ | ⟨e1, rfl⟩
    · rw [e1] at hx; cases hx
    · rw [e1] at hx
      obtain rfl := Option.some.inj hx
      exact ⟨rfl, row_push_new rfl, by simp⟩
  have hj2 : ∀ x, j2 = some x → s2.heap.length = x ∧ s3.row x = some c2 := fun x hx => by
    rcases hs3 with ⟨e1, _⟩ | ⟨e1, rfl⟩
    · rw [e1] at hx; cases hx
    · rw [e1] at hx
      obtain rfl := Option.some.inj hx
      exact ⟨rfl, row_push_new rfl⟩
  have L1 := g12.len
  have L2 := g23.len
  have hl13 := hl1.gr g23 fun _ _ h => h
  have hp3 := (sh1.hp.new (g12.trans g23) fun _ _ h => h)
  have hlent3 : Lent s3 0 r M c := ⟨hp3.fl, by rw [← hBV1]; exact (hp3.al _ List.mem_cons_self).1, by rw [← hBUF]; exact (hp3.al (r, BUF) (by simp)).1, hlent.len, hlent.ne⟩
  obtain ⟨s4, hback, hln4, kp4⟩ := den_Back hn hlent3 (nz := nz') (by omega)
  have q1 := callW_sameI hh (hl13.lst).1 (hWL s3) hkI (by omega)
  have q2 := callW_sameI hh (hl2.lst).1 (hWL s3) hkI (by omega)
  simp [wD, num]
  refine q1.mono ?_
  rintro _ s ⟨rfl, rfl⟩
  simp [wD]
  refine q2.mono ?_
  rintro _ s' ⟨rfl, rfl⟩
  simp [wD, hback]
  -- what was lent is back
  obtain ⟨hfl4, hrow4, h34⟩ := hln4
  obtain ⟨r', c', hr', hB', hbuf4, hne4⟩ : ∃ r' c', some r = some r' ∧ V.rsl 1 r 0 c.length c.length = .rsl 1 r' 0 c'.length c'.length ∧ s4.row r' = some c' ∧ r' ≠ 0 := by
    rcases h34 with ⟨e1, _⟩ | h34
    · cases e1
    · exact h34
  obtain rfl := Option.some.inj hr'
  have hc' : c'.length = c.length := by
    simp only [V.rsl.injEq] at hB'
    omega
  have hrlt := row_lt hlent.buf
  have h0lt := row_lt hlent.row
  have hx1 : ∀ x, j1 = some x → Ap lab pv x ∧ x ≠ r ∧ x ≠ 0 ∧ x < s'.heap.length ∧ s'.row x = some c1 := fun x hx => by
    obtain ⟨e1, e2, e3⟩ := hj1 x hx
    exact ⟨sh1.hp.apNew (by omega), by omega, by omega, by omega, by rw [g23.keep x (by omega) (fun h => h)]; exact e2⟩
  have hx2 : ∀ x, j2 = some x → Ap lab pv x ∧ x ≠ r ∧ x ≠ 0 ∧ x < s'.heap.length ∧ s'.row x = some c2 := fun x hx => by
    obtain ⟨e1, e2⟩ := hj2 x hx
    exact ⟨sh1.hp.apNew (by omega), by omega, by omega, row_lt e2, e2⟩
  have hx12 : ∀ x y, j1 = some x → j2 = some y → y ≠ x := fun x y hx hy => by
    obtain ⟨e1, e2, e3⟩ := hj1 x hx
    obtain ⟨e4, _⟩ := hj2 y hy
    omega
  have k4 : ∀ x, x ≠ r → x < s'.heap.length → s4.row x = s'.row x := fun x hx hl => row_of_heap (kp4.heap x hl hx)
  have sh4 : ShI s4 1 b lab fs pv ((0, [BV1, .d (.i .i64 M.length)]) :: (alo (some r) c' ++ alo j2 c2)) := sh1.to (hp3.kp kp4 (fun i _ hi => by
    obtain rfl : i = r := hi
    exact hapr) fun x hx => by
    simp only [List.mem_cons, List.mem_append, mem_alo, Option.some.injEq] at hx
    rcases hx with rfl | ⟨e1, e2⟩ | ⟨e1, e2⟩
    · exact ⟨by rw [hBV1]; exact hrow4, hap0⟩
    · rw [← e1, e2]; exact ⟨hbuf4, hapr⟩
    · obtain ⟨f1, f2, f3, f4, f5⟩ := hx2 x.1 e1
      exact ⟨by rw [k4 x.1 f2 f4, f5, e2], f1⟩)
  have hl14 : LR s4 5 v1 acc.length (ofDs (acc.map Ins.cells).flatten) j1 := hl13.row fun x hx => by
    obtain ⟨f1, f2, f3, f4, f5⟩ := hx1 x hx
    exact k4 x f2 f4
  have htot2 := sh4.total
  refine callW_OwnI hh sh4 hfr hl14 (fun x hx => by
    obtain ⟨f1, f2, f3, f4, f5⟩ := hx1 x hx
    refine ⟨Nat.lt_of_lt_of_le f4 kp4.hlen, .inr ⟨f1.1, f1.2, fun y hy => ?_⟩⟩
    simp only [List.mem_cons, List.mem_append, mem_alo, Option.some.injEq] at hy
    rcases hy with rfl | ⟨e1, e2⟩ | ⟨e1, e2⟩
    · exact Ne.symm f3
    · rw [← e1]; exact Ne.symm f2
    · exact hx12 x y.1 hx e1) hkI (by omega) (by omega) (by omega) ?_
  intro s5 b5 lab5 fs5 pv5 sh5 hfr5 htot5 hkv5
  simp [wD]
  have hl25 : LR s5 5 v2 acc.length (ofDs (acc.map Ins.cells).flatten) j2 := hl2.row fun x hx => by
    obtain ⟨f1, f2, f3, f4, f5⟩ := hx2 x hx
    rw [(sh5.hp.al (x, c2) (by simp [mem_alo, hx])).1, f5]
  have sh5' : ShI s5 1 b5 lab5 fs5 pv5 ((0, [BV1, .d (.i .i64 M.length)]) :: alo (some r) c') := sh5.to (sh5.hp.alset fun x hx => by
    have := sh5.hp.al x (by simp only [List.mem_cons, List.mem_append] at hx ⊢; rcases hx with h | h; exact .inl h; exact .inr (.inl h))
    exact ⟨this.1, this.2⟩)
  refine callW_OwnI hh sh5' hfr5 hl25 (fun x hx => by
    obtain ⟨f1, f2, f3, f4, f5⟩ := hx2 x hx
    obtain ⟨e1, e2, e3⟩ := sh5.hp.al (x, c2) (by simp [mem_alo, hx])
    refine ⟨row_lt e1, .inr ⟨e2, e3, fun y hy => ?_⟩⟩
    simp only [List.mem_cons, mem_alo, Option.some.injEq] at hy
    rcases hy with rfl | ⟨e1, e2⟩
    · exact Ne.symm f3
    · rw [← e1]; exact Ne.symm f2) hkI (by omega) (by omega) (by omega) ?_
  intro s6 b6 lab6 fs6 pv6 sh6 hfr6 htot6 hkv6
  simp [wD, w1]
  have hr6 : s6.row 0 = some [BV1, .d (.i .i64 M.length)] := (sh6.hp.al _ List.mem_cons_self).1
  have hb6 : s6.row r = some c' := (sh6.hp.al (r, c') (by simp [mem_alo])).1
  refine ⟨4 - (t + 1), by omega, t + 1, by omega, rfl, rfl, BV1, (M.length : Int), some r, c', b6, ⟨lab6, fs6, pv6, ⟨⟨sh6.hp.fl, hr6, .inr ⟨r, c', rfl, by rw [hBV1]; exact hB', hb6, hne4⟩⟩, sh6, fun x hx => ?_⟩⟩, hfr6, by omega, by omega⟩
  obtain rfl := Option.some.inj hx
  exact ⟨by rw [hBV1]; exact hB', by omega⟩
end
end Go.Sh
