/- What is proved here: Roll of the reference (no statement of the seat). -/
import Derived.Test.YtdmccifaggmmkaaDoorC45
import Derived.Test.YtdmccifaggmmkaaDoorC43
namespace Go.Proofs.YtdmccifaggmmkaaDoor
open Go Go.RowKit
set_option linter.unusedVariables false
set_option linter.unusedSimpArgs false

theorem F.rollA_at {h r : Int} {out : List Cap} {o : Cap} {ls : List ByteArray} {c : Wrd} (hn : out ≠ []) (ho : out[out.length - 1]? = some o) : F.rollA h r out ls c =
    (bif o.fr == c.time then out.set (out.length - 1) (F.rollC h r ls c none) else out.set (out.length - 1) ⟨o.fr, min o.to c.time, o.lines, o.row, o.bef, o.aft⟩ ++ [F.rollC h r ls c none]) := by
  have e1 : out.isEmpty = false := by cases out with
    | nil => exact absurd rfl hn
    | cons _ _ => rfl
  have e3 : out.getD (out.length - 1) default = o := by unfold List.getD; rw [ho]; rfl
  unfold F.rollA
  rw [e1, cond_false, e3]

namespace M

theorem bapp_assoc (a b c : ByteArray) : a ++ b ++ c = a ++ (b ++ c) := ByteArray.append_assoc

theorem set_last {α : Type} {ls : List α} {v : α} (h : 0 < ls.length) : ls.set (ls.length - 1) v = ls.take (ls.length - 1) ++ [v] := by
  rw [List.set_eq_take_append_cons_drop, if_pos (by omega), show ls.length - 1 + 1 = ls.length by omega, List.drop_length]

theorem setCap (out : List Cap) (i : Nat) (a b : Int) (ls : List ByteArray) (c : Int) (d e : Bool) : (out.map eCap).set i [vI a, vI b, .sl (ls.map eStr), vI c, vB d, vB e] = (out.set i ⟨a, b, ls, c, d, e⟩).map eCap := by
  rw [List.map_set]; rfl

theorem setCapW (out : List Cap) (i : Nat) (a b : Int) (ls : List ByteArray) (r c : Int) (d e : Bool) : (out.map eCap).set i [vI a, vI b, .sl ((F.lastR r ls).map eStr), vI c, vB d, vB e] = (out.set i ⟨a, b, F.lastR r ls, c, d, e⟩).map eCap := setCap ..

theorem appStrs (xs : List ByteArray) (t : ByteArray) : xs.map eStr ++ [[vS t]] = (xs ++ [t]).map eStr := by simp [eStr]

theorem lpRRk_ok (l : List Wrd) (w : Int) (r : Int) (h : Int) (h1 : l.length ≤ 500) (h2 : F.wrdsOK l = true) (h3 : F.rollB w r h = false) (ls : List ByteArray) (out : List Cap) (k : Nat) (h4 : k ≤ l.length) (h5 : 1 ≤ out.length ∧ out.length ≤ k) (h6 : F.lnsB k ls) (h7 : ls ≠ []) :
    ∀ ex s', (T.ret ((.exit 0, ⟨[(11, .own 11)], [(11, ⟨false, 32, 6, (F.rollR w r h (F.prev l k) ls out (l.drop k)).map eCap⟩)]⟩) : Ex × St)).val = some (ex, s') → LoopOK enRRl (loopN Tryd.f8 0) (stRRk l w r h ls out k) ex s' := by
  have hR := F.roll_bd h3
  refine loop_gen (st := fun a : List ByteArray × List Cap × Nat => stRRk l w r h a.1 a.2.1 a.2.2) (out := fun a => T.ret ((.exit 0, ⟨[(11, .own 11)], [(11, ⟨false, 32, 6, (F.rollR w r h (F.prev l a.2.2) a.1 a.2.1 (l.drop a.2.2)).map eCap⟩)]⟩) : Ex × St)) (I := fun a => a.2.2 ≤ l.length ∧ (1 ≤ a.2.1.length ∧ a.2.1.length ≤ a.2.2) ∧ F.lnsB a.2.2 a.1 ∧ a.1 ≠ []) (n := ([40, 39, 38, 12, 11, 3, 2, 1, 0], [11])) (e := ([11], [11])) (r := ([], [])) (fun a => l.length - a.2.2) ?_ (ls, out, k) ⟨h4, h5, h6, h7⟩
  rintro ⟨ls, out, k⟩ ⟨hk, ho1, hB, hne⟩
  simp only at hk ho1 hB hne
  by_cases hlt : k < l.length
  · right
    have hy : l[k]? = some l[k] := List.getElem?_eq_getElem hlt
    generalize l[k] = y at hy
    have hyo := F.wrdOK_iff.1 (F.wrds_at h2 hy)
    have hyt := hyo.2
    have hd := drop_at hy
    have hp1 : F.prev l (k + 1) = some y := hy
    have hlk : ls.length ≤ k := hB.1
    have hN := next_at hlt (by omega : l.length ≤ 9223372036854775807)
    have wT : IntKind.i64.wrap (y.time + h) = y.time + h := wrap_id (by omega) (by omega)
    have hob : Nat.ble ((out.length + 1) * 56) 140737488355328 = true := ble_t (by omega)
    have esp : (⟨⟨[32]⟩⟩ : ByteArray) = F.sp := rfl
    have uE : unenc encClF [.sl []] = some [] := unClF []
    have gt0 : decide (([] : List ByteArray).length ≤ 1000) = true := rfl
    have hno : out ≠ [] := by intro e; rw [e] at ho1; exact absurd ho1.1 (by simp)
    have ho : out[out.length - 1]? = some out[out.length - 1] := List.getElem?_eq_getElem (by omega)
    generalize out[out.length - 1] = o at ho
    have n6 : decide ((0 : Int) < (out.length : Int)) = true := decide_eq_true (by omega)
    have n7 : idx (IntKind.i64.wrap ((out.length : Int) - 1)) = some (out.length - 1) := by rw [wrap_id (by omega) (by omega), show (out.length : Int) - 1 = ((out.length - 1 : Nat) : Int) by omega]; rfl
    have n8 : decide (out.length - 1 < out.length) = true := decide_eq_true (by omega)
    have n9 := unCaps out
    have hlo : 0 < k := by omega
    obtain ⟨j, rfl⟩ : ∃ j, k = j + 1 := ⟨k - 1, by omega⟩
    have hoj : l[j]? = some l[j] := List.getElem?_eq_getElem (by omega)
    generalize l[j] = q at hoj
    have hpv : F.prev l (j + 1) = some q := hoj
    have hlq := lt_at hoj
    have hoo := F.wrdOK_iff.1 (F.wrds_at h2 hoj)
    have e1 : decide ((0 : Int) < ((j + 1 : Nat) : Int)) = true := decide_eq_true (by omega)
    have e2 : idx (IntKind.i64.wrap (((j + 1 : Nat) : Int) - 1)) = some j := by rw [wrap_id (by omega) (by omega), show ((j + 1 : Nat) : Int) - 1 = (j : Int) by omega]; rfl
    have w0 : IntKind.i64.wrap (y.time - q.time) = y.time - q.time := wrap_id (by omega) (by omega)
    generalize hk1 : j + 1 = k at *
    cases hg : decide (h < y.time - q.time)
    · have hgp : F.gap h (F.prev l k) y = false := by rw [hpv]; exact hg
      have hl0 : 0 < ls.length := List.length_pos_iff.2 hne
      have hz : ls[ls.length - 1]? = some ls[ls.length - 1] := List.getElem?_eq_getElem (by omega)
      have hemp : ls.isEmpty = false := by cases ls with
        | nil => exact absurd rfl hne
        | cons _ _ => rfl
      have hlast : F.lastL ls = ls[ls.length - 1] := getD_at hz
      generalize ls[ls.length - 1] = x at hz hlast
      have hxs := hB.2 x (List.mem_of_getElem? hz)
      have hrx := Lib.runeCount_le x
      have hry := Lib.runeCount_le y.text
      have n0 : decide ((0 : Int) < (ls.length : Int)) = true := decide_eq_true (by omega)
      have n2 : idx (IntKind.i64.wrap ((ls.length : Int) - 1)) = some (ls.length - 1) := by rw [wrap_id (by omega) (by omega), show (ls.length : Int) - 1 = ((ls.length - 1 : Nat) : Int) by omega]; rfl
      have n3 : decide (ls.length - 1 < ls.length) = true := decide_eq_true (by omega)
      have s1 : decide (x.size ≤ 4294967280) = true := decide_eq_true (by omega)
      have s2 : decide (y.text.size ≤ 4294967280) = true := decide_eq_true (by omega)
      have w1 : IntKind.i64.wrap (F.runes x + 1) = F.runes x + 1 := wrap_id (by unfold F.runes; omega) (by unfold F.runes; omega)
      have w2 : IntKind.i64.wrap (F.runes x + 1 + F.runes y.text) = F.runes x + 1 + F.runes y.text := wrap_id (by unfold F.runes; omega) (by unfold F.runes; omega)
      have hfit : F.fits w ls y.text = decide (F.runes x + 1 + F.runes y.text ≤ w) := by unfold F.fits; rw [hemp, hlast]; rfl
      have dL : decide (ls.length ≤ 1000) = true := decide_eq_true (by omega)
      cases hf : decide (F.runes x + 1 + F.runes y.text ≤ w)
      · have hls2 : F.rollS h w (F.prev l k) ls y = ls ++ [y.text] := by unfold F.rollS; rw [hgp, cond_false]; unfold F.addW; rw [hfit, hf]; rfl
        have hB2 : F.lnsB (k + 1) (ls ++ [y.text]) := hls2 ▸ F.lnsB_next hB hyt
        have b1 : Nat.ble ((ls.length + 1) * 16) 140737488355328 = true := ble_t (by have := hB.1; omega)
        obtain ⟨q1, q2, q3, q4, q5⟩ := tail_facts (r := r) (ls := ls ++ [y.text]) hR.2.1 (Nat.le_trans hB2.1 (by omega))
        have hA := F.rollA_at (h := h) (r := r) (ls := ls ++ [y.text]) (c := y) hno ho
        cases hs : (o.fr == y.time)
        · rw [hs, cond_false] at hA
          refine ⟨(ls ++ [y.text], out.set (out.length - 1) ⟨o.fr, min o.to y.time, o.lines, o.row, o.bef, o.aft⟩ ++ [F.rollC h r (ls ++ [y.text]) y none], k + 1), ?_, rfl, ⟨by simp only; omega, ⟨by simp only [List.length_append, List.length_set, List.length_singleton]; omega, by simp only [List.length_append, List.length_set, List.length_singleton]; omega⟩, hB2, by simp⟩, by simp only; omega, ?_⟩
          · rw [evRRS]
            simp only [unRCh, preRCh1, unClF, preClF1, Option.bind_some, List.length_map, unWrds, unStrs, cond_true, cond_false, Bool.and_true, Bool.true_and, Bool.not_true, Bool.not_false, Bool.and_self, cast_lt hlt, decide_eq_true hlt, hN, getD_at hy, wT, hob, uE, gt0, e1, e2, decide_eq_true hlq, getD_at hoj, w0, hg, n0, n2, n3, s1, s2, w1, w2, getD_at hz, hf, b1, dL, appStrs', appStrs, q1, q2, q3, q4, q5, Nat.zero_add, List.nil_append, n6, n7, n8, n9, getD_at ho, hs, setCap, setCapW, List.length_set, appWCaps, F.rollC, F.toN, stRRk]
            try rfl
          · simp only [hd, F.rollR, hp1, hls2, hA]
        · rw [hs, cond_true] at hA
          refine ⟨(ls ++ [y.text], out.set (out.length - 1) (F.rollC h r (ls ++ [y.text]) y none), k + 1), ?_, rfl, ⟨by simp only; omega, ⟨by simp only [List.length_append, List.length_set, List.length_singleton]; omega, by simp only [List.length_append, List.length_set, List.length_singleton]; omega⟩, hB2, by simp⟩, by simp only; omega, ?_⟩
          · rw [evRRS]
            simp only [unRCh, preRCh1, unClF, preClF1, Option.bind_some, List.length_map, unWrds, unStrs, cond_true, cond_false, Bool.and_true, Bool.true_and, Bool.not_true, Bool.not_false, Bool.and_self, cast_lt hlt, decide_eq_true hlt, hN, getD_at hy, wT, hob, uE, gt0, e1, e2, decide_eq_true hlq, getD_at hoj, w0, hg, n0, n2, n3, s1, s2, w1, w2, getD_at hz, hf, b1, dL, appStrs', appStrs, q1, q2, q3, q4, q5, Nat.zero_add, List.nil_append, n6, n7, n8, n9, getD_at ho, hs, setCap, setCapW, List.length_set, appWCaps, F.rollC, F.toN, stRRk]
            try rfl
          · simp only [hd, F.rollR, hp1, hls2, hA]
      · have hls2 : F.rollS h w (F.prev l k) ls y = ls.take (ls.length - 1) ++ [x ++ F.sp ++ y.text] := by unfold F.rollS; rw [hgp, cond_false]; unfold F.addW; rw [hfit, hf, hlast, cond_true, set_last hl0, ← bapp_assoc]
        have hB2 : F.lnsB (k + 1) (ls.take (ls.length - 1) ++ [x ++ F.sp ++ y.text]) := hls2 ▸ F.lnsB_next hB hyt
        have hT : List.take (ls.length - 1) (ls.map eStr) = (ls.take (ls.length - 1)).map eStr := (List.map_take ..).symm
        have hlt2 : (ls.take (ls.length - 1)).length = ls.length - 1 := by rw [List.length_take]; omega
        have dT : decide ((ls.take (ls.length - 1)).length ≤ 1000) = true := decide_eq_true (by omega)
        have b1 : Nat.ble (((ls.take (ls.length - 1)).length + 1) * 16) 140737488355328 = true := ble_t (by omega)
        have b2 : Nat.ble (x.size + F.sp.size) 9223372036854775807 = true := ble_t (by have : F.sp.size = 1 := rfl; omega)
        have hspz : (x ++ F.sp).size = x.size + 1 := by rw [bsize_app]; rfl
        have b3 : Nat.ble ((x ++ F.sp).size + y.text.size) 9223372036854775807 = true := ble_t (by omega)
        have b4 : Nat.ble 0 (ls.length - 1) = true := ble_t (Nat.zero_le _)
        have b5 : Nat.ble (ls.length - 1) ls.length = true := ble_t (by omega)
        obtain ⟨q1, q2, q3, q4, q5⟩ := tail_facts (r := r) (ls := ls.take (ls.length - 1) ++ [x ++ F.sp ++ y.text]) hR.2.1 (Nat.le_trans hB2.1 (by omega))
        have hA := F.rollA_at (h := h) (r := r) (ls := ls.take (ls.length - 1) ++ [x ++ F.sp ++ y.text]) (c := y) hno ho
        cases hs : (o.fr == y.time)
        · rw [hs, cond_false] at hA
          refine ⟨(ls.take (ls.length - 1) ++ [x ++ F.sp ++ y.text], out.set (out.length - 1) ⟨o.fr, min o.to y.time, o.lines, o.row, o.bef, o.aft⟩ ++ [F.rollC h r (ls.take (ls.length - 1) ++ [x ++ F.sp ++ y.text]) y none], k + 1), ?_, rfl, ⟨by simp only; omega, ⟨by simp only [List.length_append, List.length_set, List.length_singleton]; omega, by simp only [List.length_append, List.length_set, List.length_singleton]; omega⟩, hB2, by simp⟩, by simp only; omega, ?_⟩
          · rw [evRRS]
            simp only [unRCh, preRCh1, unClF, preClF1, Option.bind_some, List.length_map, unWrds, unStrs, cond_true, cond_false, Bool.and_true, Bool.true_and, Bool.not_true, Bool.not_false, Bool.and_self, cast_lt hlt, decide_eq_true hlt, hN, getD_at hy, wT, hob, uE, gt0, e1, e2, decide_eq_true hlq, getD_at hoj, w0, hg, n0, n2, n3, s1, s2, w1, w2, getD_at hz, hf, esp, hT, dT, b1, b2, b3, b4, b5, all_strs, appStrs', appStrs, q1, q2, q3, q4, q5, Nat.zero_add, List.nil_append, n6, n7, n8, n9, getD_at ho, hs, setCap, setCapW, List.length_set, appWCaps, F.rollC, F.toN, stRRk]
            try rfl
          · simp only [hd, F.rollR, hp1, hls2, hA]
        · rw [hs, cond_true] at hA
          refine ⟨(ls.take (ls.length - 1) ++ [x ++ F.sp ++ y.text], out.set (out.length - 1) (F.rollC h r (ls.take (ls.length - 1) ++ [x ++ F.sp ++ y.text]) y none), k + 1), ?_, rfl, ⟨by simp only; omega, ⟨by simp only [List.length_append, List.length_set, List.length_singleton]; omega, by simp only [List.length_append, List.length_set, List.length_singleton]; omega⟩, hB2, by simp⟩, by simp only; omega, ?_⟩
          · rw [evRRS]
            simp only [unRCh, preRCh1, unClF, preClF1, Option.bind_some, List.length_map, unWrds, unStrs, cond_true, cond_false, Bool.and_true, Bool.true_and, Bool.not_true, Bool.not_false, Bool.and_self, cast_lt hlt, decide_eq_true hlt, hN, getD_at hy, wT, hob, uE, gt0, e1, e2, decide_eq_true hlq, getD_at hoj, w0, hg, n0, n2, n3, s1, s2, w1, w2, getD_at hz, hf, esp, hT, dT, b1, b2, b3, b4, b5, all_strs, appStrs', appStrs, q1, q2, q3, q4, q5, Nat.zero_add, List.nil_append, n6, n7, n8, n9, getD_at ho, hs, setCap, setCapW, List.length_set, appWCaps, F.rollC, F.toN, stRRk]
            try rfl
          · simp only [hd, F.rollR, hp1, hls2, hA]
    · have hgp : F.gap h (F.prev l k) y = true := by rw [hpv]; exact hg
      have hls2 : F.rollS h w (F.prev l k) ls y = [y.text] := by unfold F.rollS; rw [hgp]; rfl
      have hB2 : F.lnsB (k + 1) [y.text] := hls2 ▸ F.lnsB_next hB hyt
      have b1 : Nat.ble ((([] : List ByteArray).length + 1) * 16) 140737488355328 = true := rfl
      obtain ⟨q1, q2, q3, q4, q5⟩ := tail_facts (r := r) (ls := [y.text]) hR.2.1 (Nat.le_trans hB2.1 (by omega))
      have hA := F.rollA_at (h := h) (r := r) (ls := [y.text]) (c := y) hno ho
      cases hs : (o.fr == y.time)
      · rw [hs, cond_false] at hA
        refine ⟨([y.text], out.set (out.length - 1) ⟨o.fr, min o.to y.time, o.lines, o.row, o.bef, o.aft⟩ ++ [F.rollC h r ([y.text]) y none], k + 1), ?_, rfl, ⟨by simp only; omega, ⟨by simp only [List.length_append, List.length_set, List.length_singleton]; omega, by simp only [List.length_append, List.length_set, List.length_singleton]; omega⟩, hB2, by simp⟩, by simp only; omega, ?_⟩
        · rw [evRRS]
          simp only [unRCh, preRCh1, unClF, preClF1, Option.bind_some, List.length_map, unWrds, unStrs, cond_true, cond_false, Bool.and_true, Bool.true_and, Bool.not_true, Bool.not_false, Bool.and_self, cast_lt hlt, decide_eq_true hlt, hN, getD_at hy, wT, hob, uE, gt0, e1, e2, decide_eq_true hlq, getD_at hoj, w0, hg, b1, appStrs', appStrs, q1, q2, q3, q4, q5, Nat.zero_add, List.nil_append, n6, n7, n8, n9, getD_at ho, hs, setCap, setCapW, List.length_set, appWCaps, F.rollC, F.toN, stRRk]
          try rfl
        · simp only [hd, F.rollR, hp1, hls2, hA]
      · rw [hs, cond_true] at hA
        refine ⟨([y.text], out.set (out.length - 1) (F.rollC h r ([y.text]) y none), k + 1), ?_, rfl, ⟨by simp only; omega, ⟨by simp only [List.length_append, List.length_set, List.length_singleton]; omega, by simp only [List.length_append, List.length_set, List.length_singleton]; omega⟩, hB2, by simp⟩, by simp only; omega, ?_⟩
        · rw [evRRS]
          simp only [unRCh, preRCh1, unClF, preClF1, Option.bind_some, List.length_map, unWrds, unStrs, cond_true, cond_false, Bool.and_true, Bool.true_and, Bool.not_true, Bool.not_false, Bool.and_self, cast_lt hlt, decide_eq_true hlt, hN, getD_at hy, wT, hob, uE, gt0, e1, e2, decide_eq_true hlq, getD_at hoj, w0, hg, b1, appStrs', appStrs, q1, q2, q3, q4, q5, Nat.zero_add, List.nil_append, n6, n7, n8, n9, getD_at ho, hs, setCap, setCapW, List.length_set, appWCaps, F.rollC, F.toN, stRRk]
          try rfl
        · simp only [hd, F.rollR, hp1, hls2, hA]
  · have : k = l.length := by omega
    subst this
    left
    refine ⟨(.exit 0, ⟨[(11, .own 11)], [(11, ⟨false, 32, 6, out.map eCap⟩)]⟩), ?_, ?_, by simp, rfl⟩
    · rw [evRRS]; simp
    · simp only [List.drop_length, F.rollR]
      rfl

end M
end Go.Proofs.YtdmccifaggmmkaaDoor
