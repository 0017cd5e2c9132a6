/- Files of sections, plain: what is written is read back. -/
import Derived.Test.YtpgipjjhapapjabShLelfY
set_option linter.unusedVariables false
set_option linter.unusedSimpArgs false
namespace Go.Sh
theorem Wr.key {ss : List Sec} (h : Wr ss) {i : Nat} {s : Sec} (hs : ss[i]? = some s) : (secR (fileB ss) (offs (allOf ss)) (atsOf ss) (nmsA ss) (i + 1)).key = s.key := by
  have hlt := (List.getElem?_eq_some_iff.1 hs).1
  have ha : (allOf ss)[i]? = some s := by rw [allOf, List.getElem?_append_left hlt]; exact hs
  have hd := h.data ha
  have hn : (nmsA ss).getD i [] = s.nm := by
    have : (nmsA ss)[i]? = some s.nm := by simp [nmsA, ha]
    rw [List.getD_eq_getElem?_getD, this]
    rfl
  have hm := h.gd.2 s (List.mem_of_getElem? hs)
  unfold mayS smallI at hm
  simp only [Bool.and_eq_true, decide_eq_true_eq] at hm
  have he := h.ent ha
  obtain ⟨F, hF⟩ : ∃ F, F = entF s (plOf ss s) (offs ((allOf ss).take i)) := ⟨_, rfl⟩
  have f1 : (fv F 1 : Int) = s.ty := by rw [show fv F 1 = s.ty.toNat by rw [hF]; rfl]; omega
  have f2 : (fv F 2 : Int) = s.fl := by rw [show fv F 2 = s.fl.toNat by rw [hF]; rfl]; omega
  have f6 : (fv F 6 : Int) = s.li := by rw [show fv F 6 = s.li.toNat by rw [hF]; rfl]; omega
  have f7 : (fv F 7 : Int) = s.inf := by rw [show fv F 7 = s.inf.toNat by rw [hF]; rfl]; omega
  have f8 : (fv F 8 : Int) = s.al := by rw [show fv F 8 = s.al.toNat by rw [hF]; rfl]; omega
  have f9 : (fv F 9 : Int) = s.es := by rw [show fv F 9 = s.es.toNat by rw [hF]; rfl]; omega
  unfold secR Sec.key
  rw [he, ← hF, hd, Nat.add_sub_cancel, hn]
  simp only [f1, f2, f6, f7, f8, f9]
theorem readF_inr {L : List UInt8} {t n : Nat} {ats : List Nat} {out : List Nm} (h64 : 64 ≤ L.length) (hP : headP L = none) (hn : hv L 14 = n) (ht : tabP L = t) (hf : fldsM L t n n 0 64 = (none, ats)) (hp : padM L t ats (n - 1) 1 = none) (hr : namesR L t n ats = .inr out) : readF L = .inr (secsR L t ats out (n - 2)) := by
  unfold readF
  rw [if_neg (by omega), hP]
  simp only [hn, ht, hf, hp, hr]
/-- F1. -/
theorem readF_written {ss : List Sec} (h : Wr ss) : ∃ ss', readF (fileB ss) = .inr ss' ∧ ss'.map Sec.key = ss.map Sec.key := by
  have h16 := h.gd.1
  have hsz := h.sz
  obtain ⟨hP, h14, htp⟩ := file_headP h16 (by omega)
  have hl := file_len (ss := ss)
  have hflds := h.flds (ss.length + 2) 0 (by omega)
  have ha0 : aOf ss 0 = 64 := rfl
  rw [ha0] at hflds
  have hpad := h.pad (ss.length + 2 - 1) 1 (Nat.le_refl _) (by omega)
  have hlast : (allOf ss)[ss.length]? = some (ownS (tabB (tabOf ss)) true) := by rw [allOf, List.getElem?_append_right (Nat.le_refl _), Nat.sub_self]; rfl
  have hdat := h.data hlast
  have hf5 := h.fv5 hlast
  have hrd := readB_tab h.tab_ok (tab_nodup ss)
  have hnm := h.names (ss.length + 1) 1 [] 1 (Nat.le_refl _) (by omega) rfl (fun x => by simp [seenI, nmsL, plcs])
  have hnr : namesR (fileB ss) (offs (allOf ss)) (ss.length + 2) (atsOf ss) = .inr (nmsA ss) := by
    unfold namesR
    rw [show ss.length + 2 - 1 = ss.length + 1 by omega, hdat]
    have e1 : (ownS (tabB (tabOf ss)) true).data = tabB (tabOf ss) := rfl
    rw [e1, hrd]
    simp only
    have e2 : (nmsA ss).take (1 - 1) = [] := rfl
    rw [e2] at hnm
    rw [hnm]
    simp only
    rw [if_pos (by rw [hf5, e1, tabB_len])]
  have hR := readF_inr (by omega) hP h14 htp hflds hpad hnr
  refine ⟨_, hR, ?_⟩
  rw [show ss.length + 2 - 2 = ss.length by omega]
  refine List.ext_getElem? fun i => ?_
  rcases Nat.lt_or_ge i ss.length with hi | hi
  · obtain ⟨s, hs⟩ : ∃ s, ss[i]? = some s := ⟨_, List.getElem?_eq_getElem hi⟩
    have := h.key hs
    simp only [secsR, List.map_map, List.getElem?_map, hs, Option.map_some, List.getElem?_range hi, Function.comp]
    exact congrArg some this
  · rw [List.getElem?_eq_none (by simp [secsR]; exact hi), List.getElem?_eq_none (by simp; exact hi)]
end Go.Sh
