/- Symbols that are read (spindlelaw10.reads). -/
import Derived.Test.YtnemobbnlacmjaaShLsyN
set_option linter.unusedVariables false
set_option linter.unusedSimpArgs false
namespace Go.Sh
def lawYFns : List (Nat × SFn) := [(12, F12_spindlelaw0_Num), (204, F204_spindlelaw10_SymtabReads), (203, F203_spindlelaw10_reads), (225, F225_spindlelaw0_CopyBytes_row), (30, F30_spindlelaw10_awake)]
def wY : Nat → Bool := fun f => f == 42 || f == 32 || f == 33 || f == 206 || f == 205 || f == 203 || f == 225
/-- The law's state between two readings. -/
structure DY (s : St) (B : V) (N : Int) (jl : Option Nat) (cl : List V) (b : Syb) (lab : Nat → Option Nat) (fs : Fs) (pv : List (V × List D)) (al2 : List (Nat × List V)) : Prop where
  ln : LnI s 0 B N jl
  sh : SyI s 1 b lab fs pv ((0, [B, .d (.i .i64 N)]) :: (alo jl cl ++ al2))
  buf : ∀ r, jl = some r → B = .rsl 1 r 0 cl.length cl.length ∧ cl.length ≤ 274877906944
  sep : ∀ x ∈ al2, x.1 ≠ 0 ∧ jl ≠ some x.1
section
variable {pr : Prog} (hsy : Sub symFns pr) (hd : Sub refYFns pr) (hr : Sub refSFns pr) (hn : Sub lendFns pr) (hh : Sub syFns pr) (hw : Sub lawYFns pr) {st : St}
include hw in
theorem den_numY (x : Int) : den pr 12 [.d (.i .i64 x)] st = some (.d (.i .i64 x), st) := den_shut (hw.at 0 rfl) rfl rfl (by simp; rfl) (by simp [F12_spindlelaw0_Num])
include hsy hd hr hn hh hw
theorem callW_reads {B : V} {N : Int} {jl : Option Nat} {cl : List V} {b : Syb} {lab : Nat → Option Nat} {fs : Fs} {pv : List (V × List D)} {al2 : List (Nat × List V)} (hD : DY st B N jl cl b lab fs pv al2) {v : V} {L : List UInt8} (hv : BV st v L) (h0 : ∀ s id off n cap, v = .rsl s id off n cap → off = 0) (hal : ∀ x, foot v = some x → ∃ c, (x, c) ∈ al2) (hL : L.length ≤ 1048576) (hfr : b.fr.length ≤ 2) (htot : b.total ≤ 274877906944) (hkl : b.kv.length ≤ 899990000) {Q : V → St → Prop}
    (hQ : ∀ s B N jl cl b' lab fs pv, DY s B N jl cl b' lab fs pv al2 → b'.fr.length ≤ 2 → b'.total ≤ b.total + 43691 → b'.kv.length ≤ b.kv.length + 15 → Q (.d (.b true)) s) : CallW pr 203 [v, .ptr 0 0, .ptr 1 0] st Q := by
  refine .run wY (hw.at 2 rfl) rfl ?_
  rw [start_raw _ rfl]
  refine codeC_of ?_
  have num := fun st x => den_numY hw (st := st) x
  obtain ⟨acc, q, e, hro⟩ : ∃ acc q e, readOf L = (acc, q, e) := ⟨_, _, _, rfl⟩
  have hac := readOf_len hro
  have hkI := kindS acc
  have hcl6 := symC_len acc
  simp [F203_spindlelaw10_reads]
  refine (callW_rd (hd.at 0 rfl) rfl (fun u hu => raw_refReadY hd hr hu (by omega)) (hv.lst h0) hro).mono ?_
  intro r0 s1 hr0
  obtain ⟨w0, j0, c0, rfl, hl0, hj0, g01, k01⟩ := hr0.gr
  have hln1 := hD.ln.keep k01 (fun h => h) (fun _ _ h => h)
  have hp1 := hD.sh.hp.new g01 fun _ _ h => h
  have hv1 := hv.keep k01 fun _ _ h => h
  have L01 := g01.len
  -- lent
  have hap0 : Ap lab pv 0 := hD.sh.hp.ap (x := (0, [B, .d (.i .i64 N)])) List.mem_cons_self
  have hapj : ∀ r, jl = some r → Ap lab pv r := fun r hr => hD.sh.hp.ap (x := (r, cl)) (List.mem_cons_of_mem _ (List.mem_append_left _ (mem_alo.2 ⟨hr, rfl⟩)))
  have hap2 : ∀ x ∈ al2, st.row x.1 = some x.2 ∧ Ap lab pv x.1 := fun x hx => hD.sh.hp.al x (List.mem_cons_of_mem _ (List.mem_append_right _ hx))
  have hlt0 := row_lt (hD.sh.hp.al (0, [B, .d (.i .i64 N)]) List.mem_cons_self).1
  have hltj : ∀ r, jl = some r → r < st.heap.length := fun r hr => row_lt (hD.sh.hp.al (r, cl) (List.mem_cons_of_mem _ (List.mem_append_left _ (mem_alo.2 ⟨hr, rfl⟩)))).1
  have hvf : ∀ x, foot v = some x → x ≠ 0 ∧ jl ≠ some x := fun x hx => by
    obtain ⟨c, hc⟩ := hal x hx
    exact hD.sep _ hc
  obtain ⟨s2, r, c, hlend, hlent, hjr, kp2, hclen⟩ := den_LendV hn hln1 hv1 hvf (by omega) (fun r c hrow hB => by
    obtain ⟨_, _, h3⟩ := hln1
    rcases h3 with ⟨_, hB'⟩ | ⟨r', c', hj, hB', hr', _⟩
    · rw [hB'] at hB; cases hB
    · obtain ⟨h4, h5⟩ := hD.buf r' hj
      rw [h4] at hB
      simp only [V.rsl.injEq] at hB
      omega)
  obtain ⟨BUF, hBUF⟩ : ∃ BUF, BUF = wrow (lcell L) c (2 * L.length + 70) := ⟨_, rfl⟩
  have hbuf := hlent.buf
  rw [← hBUF] at hbuf
  have hBl : BUF.length = c.length := by rw [hBUF]; exact wrow_len hlent.len
  obtain ⟨BV1, hBV1⟩ : ∃ BV1, BV1 = V.rsl 1 r 0 c.length c.length := ⟨_, rfl⟩
  have hrow1 := hlent.row
  rw [← hBV1] at hrow1
  have hapr : Ap lab pv r := by
    rcases hjr with e1 | e1
    · exact hapj r e1
    · exact hp1.apNew e1
  have hne2 : ∀ x ∈ al2, x.1 ≠ r := fun x hx e1 => by
    rcases hjr with e2 | e2
    · exact (hD.sep x hx).2 (by rw [e2, e1])
    · have := row_lt (hap2 x hx).1; omega
  have hj0n : ∀ x, j0 = some x → x ≠ 0 ∧ jl ≠ some x ∧ x ≠ r := fun x hx => by
    obtain ⟨e1, e2, e3⟩ := hj0 x hx
    refine ⟨by omega, fun e => by have := hltj x e; omega, fun e4 => ?_⟩
    rcases hjr with e5 | e5
    · have := hltj r e5; omega
    · omega
  have sh2 : SyI s2 1 b lab fs pv ((0, [BV1, .d (.i .i64 L.length)]) :: ((r, BUF) :: al2)) := hD.sh.to (hp1.kp kp2 (fun i _ hi => by
    rcases hi with rfl | hi
    · exact hap0
    · exact hapj i hi) fun x hx => by
    simp only [List.mem_cons] at hx
    rcases hx with rfl | rfl | hx
    · exact ⟨hrow1, hap0⟩
    · exact ⟨hbuf, hapr⟩
    · obtain ⟨f1, f2⟩ := hap2 x hx
      have hlt := row_lt f1
      have e1 := (hp1.al x (List.mem_cons_of_mem _ (List.mem_append_right _ hx))).1
      refine ⟨(row_of_heap (kp2.heap x.1 (row_lt e1) ?_)).trans e1, f2⟩
      rintro (h | h)
      · exact (hD.sep x hx).1 h
      · exact (hD.sep x hx).2 h)
  have hG : Lst s2 1 (.rsl 1 r 0 L.length (2 * L.length + 70)) (byteCells L) := ⟨rfl, rfl, by simp [byteCells], BUF, hbuf, by have := hlent.len; omega, by rw [hBUF, Nat.mul_one, wrow_take (by omega), lcell_bytes]⟩
  obtain ⟨G, hGv⟩ : ∃ G, G = V.rsl 1 r 0 L.length (2 * L.length + 70) := ⟨_, rfl⟩
  rw [← hGv] at hlend hG
  have hl02 : LR s2 6 w0 acc.length (ofDs (acc.map Sym.cells).flatten) j0 := hl0.row fun x hx => by
    obtain ⟨e1, e2, e3⟩ := hj0 x hx
    obtain ⟨z1, z2, z3⟩ := hj0n x hx
    refine row_of_heap (kp2.heap x (by omega) ?_)
    rintro (h | h)
    · exact z1 h
    · exact z2 h
  have hv2 : BV s2 v L := hv1.keep kp2 fun x hx h => by
    obtain ⟨z1, z2⟩ := hvf x hx
    rcases h with h | h
    · exact z1 h
    · exact z2 h
  simp [wY, hlend]
  -- read
  refine (callW_rd (hsy.at 21 rfl) rfl (fun u hu => raw_Read hsy hu (by omega)) hG hro).mono ?_
  intro r1 s3 hr1
  obtain ⟨w1, j1, c1, rfl, hl1, hj1, g23, k23⟩ := hr1.gr
  have L23 := g23.len
  have hp3 := sh2.hp.new g23 fun _ _ h => h
  have hl03 := hl02.gr g23 fun _ _ h => h
  have hv3 := hv2.keep k23 fun _ _ h => h
  have hlent3 : Lent s3 0 r L c := ⟨hp3.fl, by rw [← hBV1]; exact (hp3.al _ List.mem_cons_self).1, by rw [← hBUF]; exact (hp3.al (r, BUF) (by simp)).1, hlent.len, hlent.ne⟩
  obtain ⟨s4, hback, hln4, kp4⟩ := den_BackV hn hv3 hlent3 (by omega)
  have q1 := callW_sameS hh (hl1.lst).1 (hl03.lst).1 hkI (by omega)
  simp [wY, num]
  refine q1.mono ?_
  rintro _ s ⟨rfl, rfl⟩
  simp [wY, hback]
  -- what was lent is back
  obtain ⟨hfl4, hrow4, h34⟩ := hln4
  obtain ⟨r', c', hr', hB', hbuf4, hne4⟩ : ∃ r' c', some r = some r' ∧ V.rsl 1 r 0 c.length c.length = .rsl 1 r' 0 c'.length c'.length ∧ s4.row r' = some c' ∧ r' ≠ 0 := by
    rcases h34 with ⟨e1, _⟩ | h34
    · cases e1
    · exact h34
  obtain rfl := Option.some.inj hr'
  have hc' : c'.length = c.length := by
    simp only [V.rsl.injEq] at hB'
    omega
  have hrlt := row_lt hlent.buf
  have h0lt := row_lt hlent.row
  have hx1 : ∀ x, j1 = some x → Ap lab pv x ∧ x ≠ r ∧ x ≠ 0 ∧ x < s.heap.length ∧ s.row x = some c1 ∧ s2.heap.length = x := fun x hx => by
    obtain ⟨e1, e2, e3⟩ := hj1 x hx
    exact ⟨sh2.hp.apNew (by omega), by omega, by omega, by omega, e2, e1.symm⟩
  have k4 : ∀ x, x ≠ r → x < s.heap.length → s4.row x = s.row x := fun x hx hl => row_of_heap (kp4.heap x hl hx)
  have sh4 : SyI s4 1 b lab fs pv ((0, [BV1, .d (.i .i64 L.length)]) :: (alo (some r) c' ++ al2)) := sh2.to (hp3.kp kp4 (fun i _ hi => by
    obtain rfl : i = r := hi
    exact hapr) fun x hx => by
    simp only [List.mem_cons, List.mem_append, mem_alo, Option.some.injEq] at hx
    rcases hx with rfl | ⟨e1, e2⟩ | hx
    · exact ⟨by rw [hBV1]; exact hrow4, hap0⟩
    · rw [← e1, e2]; exact ⟨hbuf4, hapr⟩
    · have e1 := (hp3.al x (List.mem_cons_of_mem _ (List.mem_cons_of_mem _ hx))).1
      exact ⟨by rw [k4 x.1 (hne2 x hx) (row_lt e1)]; exact e1, (hap2 x hx).2⟩)
  have hl14 : LR s4 6 w1 acc.length (ofDs (acc.map Sym.cells).flatten) j1 := hl1.row fun x hx => by
    obtain ⟨f1, f2, f3, f4, f5, f6⟩ := hx1 x hx
    exact k4 x f2 f4
  have htot2 := sh4.total
  refine callW_OwnY hh sh4 hfr hl14 (fun x hx => by
    obtain ⟨f1, f2, f3, f4, f5, f6⟩ := hx1 x hx
    refine ⟨Nat.lt_of_lt_of_le f4 kp4.hlen, .inr ⟨f1.1, f1.2, fun y hy => ?_⟩⟩
    simp only [List.mem_cons, List.mem_append, mem_alo, Option.some.injEq] at hy
    rcases hy with rfl | ⟨e1, e2⟩ | hy
    · exact Ne.symm f3
    · rw [← e1]; exact Ne.symm f2
    · intro e1
      have := row_lt (sh2.hp.al y (List.mem_cons_of_mem _ (List.mem_cons_of_mem _ hy))).1
      omega) hkI (by omega) (by omega) (by omega) ?_
  intro s5 b5 lab5 fs5 pv5 sh5 hfr5 htot5 hkv5
  simp [wY]
  refine (callW_HoldsT hh sh5).mono ?_
  rintro _ s' ⟨rfl, rfl⟩
  simp [FinW]
  have hr5 : s'.row 0 = some [BV1, .d (.i .i64 L.length)] := (sh5.hp.al _ List.mem_cons_self).1
  have hb5 : s'.row r = some c' := (sh5.hp.al (r, c') (by simp [mem_alo])).1
  refine hQ s' BV1 (L.length : Int) (some r) c' b5 lab5 fs5 pv5 ⟨⟨sh5.hp.fl, hr5, .inr ⟨r, c', rfl, by rw [hBV1]; exact hB', hb5, hne4⟩⟩, sh5, fun x hx => ?_, fun x hx => ⟨(hD.sep x hx).1, fun e => hne2 x hx (Option.some.inj e).symm⟩⟩ hfr5 (by omega) hkv5
  obtain rfl := Option.some.inj hx
  exact ⟨by rw [hBV1]; exact hB', by omega⟩
end
end Go.Sh
