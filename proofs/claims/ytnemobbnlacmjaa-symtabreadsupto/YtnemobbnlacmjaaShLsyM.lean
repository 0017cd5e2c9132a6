/- What the document's reader of symbols comes to. -/
import Derived.Test.YtnemobbnlacmjaaShLsyL
set_option linter.unusedVariables false
set_option linter.unusedSimpArgs false
namespace Go.Sh
theorem sortN_inj {o : Option Srt} {s : Srt} (h : sortN o = s.rank) : o = some s := by
  cases o with
  | none => exact absurd h.symm (rank_ne s)
  | some t =>
    simp only [sortN] at h
    rcases s with (_ | _) | _ | _ <;> rcases t with (_ | _) | _ | _ <;> simp [Srt.rank] at h <;> rfl
theorem info_of {z : Int} {s : Srt} (h : sortOf z = some s) : z = s.info := by
  unfold sortOf at h
  split at h
  · obtain rfl := Option.some.inj h; assumption
  split at h
  · obtain rfl := Option.some.inj h; assumption
  split at h
  · obtain rfl := Option.some.inj h; assumption
  split at h
  · obtain rfl := Option.some.inj h; assumption
  · cases h
theorem val_nn {s : Srt} {z : Int} (h : s.value z = true) : 0 ≤ z := by
  cases s <;> simp [Srt.value] at h <;> omega
theorem siz_nn {s : Srt} {z : Int} (h : s.size z = true) : 0 ≤ z := by
  cases s <;> simp [Srt.size] at h <;> omega
theorem tld_lo {n b : Nat} (h : n < b) (hb : b ≤ 4294967296) : tldZ n = n ∧ IntKind.wrap .i64 (n : Int) = n ∧ 0 ≤ (n : Int) ∧ (n : Int) ≤ 4294967295 := by
  refine ⟨by unfold tldZ; rw [if_neg (by omega)], wrap_i64 (by omega) (by omega), by omega, by omega⟩
theorem tld_nn {n : Nat} (h : n < 18446744073709551616) (h0 : 0 ≤ IntKind.wrap .i64 (n : Int)) : tldZ n = IntKind.wrap .i64 (n : Int) := by
  rcases tld_cases h with ⟨e, _⟩ | ⟨_, e⟩
  · exact e
  · exact absurd h0 (by omega)
theorem ent_ok {c : List UInt8} {x : Sym} {s : Srt} {w : Int} (h : entryOf c = (x, some s, w)) (hw : ¬ 0 ≤ w) : docSym c = x ∧ x.sortOk = some s := by
  unfold entryOf at h
  split at h
  · simp at h
  rename_i s' hs
  simp only [Prod.mk.injEq, Option.some.injEq] at h
  obtain ⟨rfl, rfl, rfl⟩ := h
  have hin := info_of hs
  have h5 : (c.getD 5 0).toNat = 0 := by
    by_cases h5 : (c.getD 5 0).toNat = 0
    · exact h5
    · rw [if_pos h5] at hw; omega
  rw [if_neg (by simp; simpa using h5)] at hw
  by_cases h6 : (symAt c).sec = s'.sec
  rotate_left
  · rw [if_pos h6] at hw; omega
  rw [if_neg (by simp [h6])] at hw
  by_cases h8 : s'.value (symAt c).value = true
  rotate_left
  · rw [if_pos (by simpa using h8)] at hw; omega
  rw [if_neg (by simp [h8])] at hw
  by_cases h16 : s'.size (symAt c).size = true
  rotate_left
  · rw [if_pos (by simpa using h16)] at hw; omega
  have hn0 : leN c 0 4 < 4294967296 := by have := leN_lt c 0 4; simpa using this
  have hn6 : leN c 6 2 < 65536 := by have := leN_lt c 6 2; simpa using this
  have hn8 : leN c 8 8 < 18446744073709551616 := by have := leN_lt c 8 8; simpa using this
  have hn16 : leN c 16 8 < 18446744073709551616 := by have := leN_lt c 16 8; simpa using this
  have p8 : (symAt c).value = IntKind.wrap .i64 (leN c 8 8 : Int) := by simp only [symAt]
  have p16 : (symAt c).size = IntKind.wrap .i64 (leN c 16 8 : Int) := by simp only [symAt]
  have p6 : (symAt c).sec = IntKind.wrap .i64 (leN c 6 2 : Int) := by simp only [symAt]
  obtain ⟨e0, w0, z0, z1⟩ := tld_lo hn0 (Nat.le_refl _)
  obtain ⟨e6, w6, _, _⟩ := tld_lo hn6 (by decide)
  have e8 := tld_nn hn8 (p8 ▸ val_nn h8)
  have e16 := tld_nn hn16 (p16 ▸ siz_nn h16)
  have h3 := srt3 (nm := (leN c 0 4 : Int)) z0 z1 s' (symAt c).value (symAt c).size h8
  rw [if_pos h16, p8, p16, ← h6, p6, w6] at h3
  have b1 : (((c.getD 4 0).toNat / 16 : Nat) : Int) = s'.info / 16 := by rw [← hin]; rfl
  have b2 : (((c.getD 4 0).toNat % 16 : Nat) : Int) = s'.info % 16 := by rw [← hin]; rfl
  rw [← b1, ← b2] at h3
  have hsy : symAt c = ⟨leN c 0 4, ((c.getD 4 0).toNat / 16 : Nat), ((c.getD 4 0).toNat % 16 : Nat), leN c 6 2, IntKind.wrap .i64 (leN c 8 8), IntKind.wrap .i64 (leN c 16 8)⟩ := by simp only [symAt, w0, w6]
  refine ⟨by rw [hsy]; simp only [docSym, e0, e6, e8, e16], sortN_inj ?_⟩
  rw [← sortB_eq, hsy]
  exact h3
/-- The order's state is that of these. -/
def Og (o : Ordr) (acc : List Sym) : Prop := (acc = [] ∧ o.last = none) ∨ ∃ l y, 0 < acc.length ∧ acc[acc.length - 1]? = some y ∧ y.sortOk = some l ∧ o.last = some l ∧ o.value = y.value
section
variable {pr : Prog} (hd : Sub refYFns pr) (hr : Sub refSFns pr) {st : St}
include hd hr
theorem raw_refReadY {u : V} {l : List UInt8} (hu : SlD 1 u (l.map byC)) (hl : l.length ≤ 70368744177672) : RawD pr F42_spindleref10_Read [u] fun v s => (∃ acc, readOf l = (acc, 0, 0) ∧ v = .tup [.own 6 acc.length (decide (0 < acc.length)) (acc.map Sym.cells).flatten 0, .d (.i .i64 0), .d (.i .i64 0)] ∧ s.tips[0]? = some acc.length) ∨
    ∃ k p, readOf l = ([], p, k) ∧ v = .tup [.d (.sl 0 false []), .d (.i .i64 p), .d (.i .i64 k)] := by
  refine .of ?_
  have hlen := hu.len
  rw [List.length_map] at hlen
  simp [F42_spindleref10_Read]
  generalize hL : cden pr (.loop _ _ _) _ _ = o
  obtain ⟨r, rfl, hQ⟩ : ∃ r, o = some r ∧ ((∃ acc e s, readOf l = (acc, 0, 0) ∧ r = (.exit 0, e, s) ∧ e.get 5 = some (.own 6 acc.length (decide (0 < acc.length)) (acc.map Sym.cells).flatten 0) ∧ s.tips[0]? = some acc.length) ∨
      ∃ k p e s, readOf l = ([], p, k) ∧ r = (.ret, e, s) ∧ e.get 2 = some (.d (.sl 0 false [])) ∧ e.get 3 = some (.d (.i .i64 p)) ∧ e.get 4 = some (.d (.i .i64 k))) := by
    rw [← hL]
    obtain ⟨J, hJ⟩ : ∃ J : Nat → Env → St → Prop, J = (fun n e st => ∃ (at_ : Nat) (o : Ordr) (acc : List Sym) (bs : List Blk), n = l.length + 1 - at_ ∧ at_ ≤ l.length ∧ 24 * acc.length ≤ at_ ∧ 0 ≤ o.tables ∧ o.tables ≤ at_ ∧ Og o acc ∧
      (at_ = 0 ∧ o = o0 ∧ acc = [] ∨ 24 * acc.length + 24 ≤ at_ ∧ rdA o acc at_ (l.drop at_) = readOf l) ∧ st = s0 bs [acc.length] 0 0 ∧
      e = [(0, u), (5, .own 6 acc.length (decide (0 < acc.length)) (acc.map Sym.cells).flatten 0), (6, .d (.i .i64 o.tables)), (7, .d (.i .i64 at_))]) := ⟨_, rfl⟩
    refine loop_j J ?_ (n := l.length + 1) ?_
    rotate_left
    · rw [hJ]
      exact ⟨0, o0, [], [], by omega, by omega, by simp, by simp [o0], by simp [o0], .inl ⟨rfl, rfl⟩, .inl ⟨rfl, rfl, rfl⟩, by simp, by simp [o0]⟩
    intro n e st hj
    rw [hJ] at hj
    obtain ⟨at_, o, acc, bs, rfl, hat, hacc, ht0, ht1, hog, hph, rfl, rfl⟩ := hj
    have hsl : at_ + 24 ≤ l.length → ∃ w, slcV 1 u (some (.d (.i .i64 (at_ : Int)))) (some (.d (.i .i64 ((at_ : Int) + 24)))) none = some w ∧ SlD 1 w (((l.drop at_).take 24).map byC) := by
      intro h24
      obtain ⟨w, h1, h2⟩ := hu.slice (lo := some (.d (.i .i64 (at_ : Int)))) (hi := some (.d (.i .i64 ((at_ : Int) + 24)))) (a := at_) (b := at_ + 24) (by simp [Bd]) (by simp [Bd]) (by omega) (by simp; omega)
      refine ⟨w, h1, ?_⟩
      rw [← List.map_take, ← List.map_drop, List.drop_take, Nat.add_sub_cancel_left] at h2
      exact h2
    have a1 : IntKind.wrap .i64 ((at_ : Int) + 24) = at_ + 24 := wrap_i64 (by omega) (by omega)
    have a2 : IntKind.wrap .i64 ((l.length : Int) - at_) = l.length - at_ := wrap_i64 (by omega) (by omega)
    rcases hph with ⟨rfl, rfl, rfl⟩ | ⟨hge, hrd⟩
    · have a2' : IntKind.wrap .i64 (l.length : Int) = l.length := by simpa using a2
      have a3 : IntKind.wrap .i64 24 = 24 := rfl
      by_cases h24 : l.length < 24
      · have hres : readOf l = ([], (l.length : Int), 100) := by simp [readOf, h24]
        have h24' : (l.length : Int) < 24 := by omega
        by_cases h00 : 0 < l.length
        · have h00I : (0 : Int) < l.length := by omega
          simp [F42_spindleref10_Read_b0, hlen, a2', h24', hres, h00, h00I]
        · have h00I : ¬ (0 : Int) < l.length := by omega
          simp [F42_spindleref10_Read_b0, hlen, a2', h24', hres, h00, h00I]
      · have h24' : ¬ (l.length : Int) < 24 := by omega
        have h00 : 0 < l.length := by omega
        have h00I : (0 : Int) < l.length := by omega
        simp [F42_spindleref10_Read_b0, hlen, a2', a3, h24', h00, h00I]
        generalize hL2 : cden pr (.loop _ _ _) _ _ = o
        obtain ⟨r, rfl, hQ⟩ : ∃ r, o = some r ∧ (((l.take 24).findIdx? (fun b => decide (b ≠ 0)) = none ∧ ∃ e, r = (.exit 2, e, s0 bs [0] 0 0) ∧ e.get 0 = some u ∧ e.get 5 = some (.own 6 0 false [] 0) ∧ e.get 6 = some (.d (.i .i64 o0.tables)) ∧ e.get 7 = some (.d (.i .i64 0))) ∨
            ∃ i : Nat, (l.take 24).findIdx? (fun b => decide (b ≠ 0)) = some i ∧ ∃ e, r = (.ret, e, s0 bs [0] 0 0) ∧ e.get 2 = some (.d (.sl 0 false [])) ∧ e.get 3 = some (.d (.i .i64 i)) ∧ e.get 4 = some (.d (.i .i64 100))) := by
          rw [← hL2]
          refine loop_j (fun n e st => ∃ i : Nat, i ≤ 24 ∧ n = 24 - i ∧ (∀ b ∈ (l.take 24).take i, b = 0) ∧ st = s0 bs [0] 0 0 ∧
            e = [(0, u), (5, .own 6 0 false [] 0), (6, .d (.i .i64 o0.tables)), (7, .d (.i .i64 0)), (8, .d (.i .i64 i))]) ?_ (n := 24) ?_
          rotate_left
          · exact ⟨0, by omega, by omega, by simp, rfl, by simp⟩
          rintro n e st ⟨i, hi, rfl, hz, rfl, rfl⟩
          have hcl : (l.take 24).length = 24 := by simp; omega
          have hcg : ∀ b, l[i]? = some b → i < 24 → (l.take 24)[i]? = some b := fun b h1 h2 => by rw [List.getElem?_take, if_pos h2]; exact h1
          generalize l.take 24 = c at *
          rcases Nat.lt_or_ge i 24 with h | h
          · obtain ⟨b, hb0⟩ : ∃ b, l[i]? = some b := ⟨_, List.getElem?_eq_getElem (by omega)⟩
            have hb := hcg b hb0 h
            have h1 : IntKind.wrap .i64 ((i : Int) + 1) = i + 1 := wrap_i64 (by omega) (by omega)
            have hi' : (i : Int) < 24 := by omega
            have hia := hu.iaddr (i := (i : Int)) (k := .i64) (by omega) (by simp; omega)
            have hld := fun st => hu.load (st := st) (i := i) (o := 0) (n := 1) (agg := false) (el := byC b) (by simp [hb0]) (by omega) (by omega)
            by_cases hb0 : b.toNat = 0
            · simp [F42_spindleref10_Read_b1, hi', hia, hld, byC, ofDs, h1, hb0]
              refine ⟨24 - (i + 1), by omega, i + 1, by omega, by omega, ?_, by omega⟩
              intro x hx
              rw [List.take_add_one, hb] at hx
              simp only [Option.toList, List.mem_append, List.mem_singleton] at hx
              rcases hx with hx | rfl
              · exact hz x hx
              · exact UInt8.toNat_inj.1 hb0
            · have hfi : c.findIdx? (fun b => decide (b ≠ 0)) = some i := by
                obtain ⟨hlt, hbe⟩ := List.getElem?_eq_some_iff.1 hb
                rw [List.findIdx?_eq_some_iff_getElem]
                refine ⟨hlt, ?_, fun j hj => ?_⟩
                · rw [hbe]
                  simp
                  rintro rfl
                  exact hb0 rfl
                · have := hz c[j] (List.mem_take_iff_getElem.2 ⟨j, by omega, rfl⟩)
                  simp [this]
              simp [F42_spindleref10_Read_b1, hi', hia, hld, byC, ofDs, h1, hb0]
              exact ⟨i, by simpa using hfi, rfl⟩
          · obtain rfl : i = 24 := by omega
            have hfi : c.findIdx? (fun b => decide (b ≠ 0)) = none := by
              rw [List.take_of_length_le (by omega)] at hz
              simpa using hz
            simp [F42_spindleref10_Read_b1]
            simpa using hfi
        rcases hQ with ⟨hfi, e, rfl, g0, g5, g6, g7⟩ | ⟨i, hfi, e, rfl, g2, g3, g4⟩
        · have hres : rdA o0 [] 24 (l.drop 24) = readOf l := by
            unfold readOf
            rw [if_neg h24, hfi]
          simp [g0, g5, g6, g7, a3]
          refine ⟨l.length + 1 - 24, by omega, ?_⟩
          rw [hJ]
          exact ⟨24, o0, [], bs, rfl, by omega, by simp, by simp [o0], by simp [o0], .inl ⟨rfl, rfl⟩, .inr ⟨by simp, hres⟩, rfl, by simp⟩
        · have hres : readOf l = ([], (i : Int), 100) := by
            unfold readOf
            rw [if_neg h24, hfi]
          simp [g2, g3, g4, hres]
    · have hne : ¬ (at_ : Int) = 0 := by omega
      have hne2 : ¬ at_ = 0 := by omega
      rcases Nat.lt_or_ge at_ l.length with hlt | hge2
      rotate_left
      · obtain rfl : at_ = l.length := by omega
        rw [List.drop_length, rdA] at hrd
        simp at hrd
        simp [F42_spindleref10_Read_b0, hlen, hne, hne2]
        exact ⟨acc, by rw [← hrd], _, _, ⟨rfl, rfl⟩, by simp, by simp⟩
      have hlt' : (at_ : Int) < l.length := by omega
      have hnil : l.drop at_ ≠ [] := by
        intro h
        have := congrArg List.length h
        simp at this
        omega
      rw [rdA, dif_neg hnil] at hrd
      by_cases h24 : l.length < at_ + 24
      · have h24' : (l.length : Int) - at_ < 24 := by omega
        rw [dif_pos (by simp; omega)] at hrd
        simp [F42_spindleref10_Read_b0, hlen, hne, hne2, hlt, a2, h24']
        rw [← hrd]
        simp
        exact ⟨_, _, ⟨rfl, rfl⟩, by omega, rfl⟩
      rw [dif_neg (by simp; omega)] at hrd
      have h24' : ¬ (l.length : Int) - at_ < 24 := by omega
      obtain ⟨w, hw1, hw2⟩ := hsl (by omega)
      have hcl : ((l.drop at_).take 24).length = 24 := by simp; omega
      have hen := fun st => den_entryY (pr := pr) hd hr (st := st) hw2.c hcl
      have hen1 := @entryOf_none ((l.drop at_).take 24)
      have hle := entryOf_le ((l.drop at_).take 24)
      have hok1 := @ent_ok ((l.drop at_).take 24)
      generalize entryOf ((l.drop at_).take 24) = en at *
      generalize docSym ((l.drop at_).take 24) = X at *
      obtain ⟨x, so, q⟩ := en
      simp only at hen
      have hle : -1 ≤ q ∧ q ≤ 16 := hle
      have a4 : IntKind.wrap .i64 ((at_ : Int) + q) = at_ + q := wrap_i64 (by omega) (by omega)
      by_cases hq : 0 ≤ q
      · have hres : readOf l = ([], (at_ : Int) + q, 100) := by
          rw [← hrd]
          cases so with
          | none => rfl
          | some s => simp [hq]
        simp [F42_spindleref10_Read_b0, hlen, hne, hne2, hlt, a1, a2, h24', hw1, hen, fillV, lay, ofDs, Sym.cells, hq, a4, hres]
      · cases so with
        | none => exact absurd (hen1 rfl) (by omega)
        | some s =>
          dsimp only at hrd
          rw [if_neg hq] at hrd
          obtain ⟨rfl, hxs⟩ := hok1 rfl hq
          have hb1 : (acc.length + 1) * 48 ≤ 140737488355328 := by omega
          have hb2 : acc.length + 1 ≤ 140737488355328 := by omega
          have hfl : (acc.map Sym.cells).flatten.length = acc.length * 6 := by
            rw [flatten_len (sz := 6) (fun y hy => by simp only [List.mem_map] at hy; obtain ⟨z, _, rfl⟩ := hy; rfl), List.length_map]
          have hsc : ∀ x ∈ (acc ++ [X]).map Sym.cells, x.length = 6 := fun y hy => by simp only [List.mem_map] at hy; obtain ⟨z, _, rfl⟩ := hy; rfl
          have hfo := fun st => den_follows hr (st := st) (v := .own 6 (acc.length + 1) true ((acc.map Sym.cells).flatten ++ X.cells) 0) (ss := acc ++ [X]) (.of_own hsc (by simp) (by simp)) (i := acc.length) (x := X) (by simp) hxs (o := o) (by
            rcases hog with ⟨rfl, e⟩ | ⟨l, y, e1, e2, e3, e4, e5⟩
            · exact .inl ⟨rfl, e⟩
            · exact .inr ⟨l, y, e1, by rw [List.getElem?_append_left (by omega)]; exact e2, e3, e4, e5⟩) ht0 (by omega) (by simp; omega)
          have hso := fun st => den_refSort hr (st := st) X
          rw [hxs] at hso
          have wl : IntKind.wrap .i64 (acc.length : Int) = acc.length := wrap_i64 (by omega) (by omega)
          have wt : IntKind.wrap .i64 (o.tables + 1) = o.tables + 1 := wrap_i64 (by omega) (by omega)
          have htab : (sortN (some s) = 2) = (s = .tab) := by
            apply propext
            rcases s with (_ | _) | _ | _ <;> simp [sortN, Srt.rank]
          simp only [Sym.cells] at hfo hso
          simp [ofDs] at hso
          cases hok : o.ok s X.value
          · have hres : readOf l = ([], (at_ : Int), 101) := by rw [← hrd, hok]; rfl
            rw [hok] at hfo
            simp [F42_spindleref10_Read_b0, hlen, hne, hne2, hlt, a1, a2, h24', hw1, hen, fillV, lay, ofDs, Sym.cells, hq, reps, appV, vw, hb1, hb2, hfl, wl, hfo, hres]
          · rw [hok] at hrd hfo
            simp only [if_true] at hrd
            have hog' : Og (o.step s X.value) (acc ++ [X]) := .inr ⟨s, X, by simp, by simp, hxs, rfl, rfl⟩
            by_cases htb : s = .tab
            · subst htb
              have h2 : sortN (some Srt.tab) = 2 := rfl
              simp [F42_spindleref10_Read_b0, hlen, hne, hne2, hlt, a1, a2, h24', hw1, hen, fillV, lay, ofDs, Sym.cells, hq, reps, appV, vw, hb1, hb2, hfl, wl, hfo, hso, h2, wt]
              refine ⟨l.length + 1 - (at_ + 24), by omega, ?_⟩
              rw [hJ]
              refine ⟨at_ + 24, o.step .tab X.value, acc ++ [X], bs ++ [.row (X.cells.map .d)], rfl, by omega, by simp; omega, ?_, ?_, hog', .inr ⟨by simp; omega, ?_⟩, ?_, ?_⟩
              · simp only [Ordr.step]; split <;> omega
              · simp only [Ordr.step]; split <;> omega
              · rw [← hrd, List.drop_drop]
              · simp [ofDs, Sym.cells]
              · simp [Sym.cells, Ordr.step]
            · have h2 : ¬ sortN (some s) = 2 := by rw [htab]; exact htb
              simp [F42_spindleref10_Read_b0, hlen, hne, hne2, hlt, a1, a2, h24', hw1, hen, fillV, lay, ofDs, Sym.cells, hq, reps, appV, vw, hb1, hb2, hfl, wl, hfo, hso, h2, wt]
              refine ⟨l.length + 1 - (at_ + 24), by omega, ?_⟩
              rw [hJ]
              refine ⟨at_ + 24, o.step s X.value, acc ++ [X], bs ++ [.row (X.cells.map .d)], rfl, by omega, by simp; omega, ?_, ?_, hog', .inr ⟨by simp; omega, ?_⟩, ?_, ?_⟩
              · simp only [Ordr.step]; split <;> omega
              · simp only [Ordr.step]; split <;> omega
              · rw [← hrd, List.drop_drop]
              · simp [ofDs, Sym.cells]
              · simp [Sym.cells, Ordr.step, htb]
  rcases hQ with ⟨acc, e, s, hw, rfl, h4, h6⟩ | ⟨k, p, e, s, hw, rfl, h2, h3, h5⟩
  · simp [h4, hw, h6]
  · simp [h2, h3, h5, hw]
end
end Go.Sh
