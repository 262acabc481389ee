/- What is proved here: Roll of the program, its loop: what it makes (no statement of the seat). -/
import Derived.Test.YtdmccifaggmmkaaDoorC42
namespace Go.Proofs.YtdmccifaggmmkaaDoor
open Go Go.RowKit
set_option linter.unusedVariables false
set_option linter.unusedSimpArgs false

theorem F.prev_cases {α : Type} {l : List α} {k : Nat} (h : k ≤ l.length) : (k = 0 ∧ F.prev l k = none) ∨ ∃ j o, k = j + 1 ∧ l[j]? = some o ∧ F.prev l k = some o := by
  cases k with
  | zero => exact .inl ⟨rfl, rfl⟩
  | succ j =>
    have ho : l[j]? = some l[j] := List.getElem?_eq_getElem (by omega)
    exact .inr ⟨j, _, rfl, ho, ho⟩

theorem F.roll_bd {w r h : Int} (hb : F.rollB w r h = false) : (1 ≤ w ∧ w ≤ 200) ∧ (1 ≤ r ∧ r ≤ 15) ∧ (1 ≤ h ∧ h ≤ 359999999) := by
  unfold F.rollB F.out at hb
  simp at hb
  omega

namespace M

theorem bsize_app (a b : ByteArray) : (a ++ b).size = a.size + b.size := by simp

theorem setStr (xs : List ByteArray) (i : Nat) (s : ByteArray) : (xs.map eStr).set i [vS s] = (xs.set i s).map eStr := by simp [eStr, List.map_set]

theorem tail_facts {r : Int} {ls : List ByteArray} (hr : 1 ≤ r ∧ r ≤ 15) (hl : ls.length ≤ 600) :
    idx (max 0 (IntKind.i64.wrap ((ls.length : Int) - r))) = some (ls.length - r.toNat) ∧ Nat.ble (ls.length - r.toNat) ls.length = true ∧ Nat.ble ls.length ls.length = true ∧
    List.take (ls.length - (ls.length - r.toNat)) (List.drop (ls.length - r.toNat) (ls.map eStr)) = (F.lastR r ls).map eStr ∧ decide ((F.lastR r ls).length ≤ 1000) = true := by
  refine ⟨?_, ble_t (by omega), ble_t (Nat.le_refl _), ?_, decide_eq_true ?_⟩
  · rw [wrap_id (by omega) (by omega), show max 0 ((ls.length : Int) - r) = ((ls.length - r.toNat : Nat) : Int) by omega]
    rfl
  · unfold F.lastR
    rw [← List.map_drop, List.take_of_length_le (by rw [List.length_map, List.length_drop]; omega)]
  · unfold F.lastR
    rw [List.length_drop]; omega

theorem lpRl_ok (l : List Wrd) (w : Int) (r : Int) (h : Int) (ls : List ByteArray) (out : List Cap) (k : Nat) (hp : prlRl l w r h ls out k = true) : ∀ ex s', (outRl l w r h ls out k).val = some (ex, s') → LoopOK enRl (loopN Tryd.f7 0) (stRl l w r h ls out k) ex s' := by
  simp only [prlRl, Bool.and_eq_true, decide_eq_true_eq, Bool.not_eq_true', F.lnsBb_iff] at hp
  obtain ⟨⟨⟨⟨⟨h1, h2⟩, h3⟩, h4⟩, h5⟩, h6⟩ := hp
  have hR := F.roll_bd h3
  refine loop_gen (st := fun a : List ByteArray × List Cap × Nat => stRl l w r h a.1 a.2.1 a.2.2) (out := fun a => outRl l w r h a.1 a.2.1 a.2.2) (I := fun a => a.2.2 ≤ l.length ∧ a.2.1.length ≤ a.2.2 ∧ F.lnsB a.2.2 a.1) (n := ([35, 34, 33, 12, 11, 3, 2, 1, 0], [12, 11])) (e := ([11], [11])) (r := ([], [])) (fun a => l.length - a.2.2) ?_ (ls, out, k) ⟨h4, h5, h6⟩
  rintro ⟨ls, out, k⟩ ⟨hk, ho, hB⟩
  simp only at hk ho hB
  by_cases hlt : k < l.length
  · right
    have hy : l[k]? = some l[k] := List.getElem?_eq_getElem hlt
    generalize l[k] = y at hy
    have hyo := F.wrdOK_iff.1 (F.wrds_at h2 hy)
    have hyt := hyo.2
    have hd := drop_at hy
    have hp1 : F.prev l (k + 1) = some y := hy
    have hlk : ls.length ≤ k := hB.1
    have hN := next_at hlt (by omega : l.length ≤ 9223372036854775807)
    have wT : IntKind.i64.wrap (y.time + h) = y.time + h := wrap_id (by omega) (by omega)
    have hob : Nat.ble ((out.length + 1) * 56) 140737488355328 = true := ble_t (by omega)
    have esp : (⟨⟨[32]⟩⟩ : ByteArray) = F.sp := rfl
    rcases F.prev_cases hk with ⟨hk0, hpv⟩ | ⟨j, o, hkj, hoj, hpv⟩
    · have e1 : decide ((0 : Int) < (k : Int)) = false := decide_eq_false (by omega)
      have hgp : F.gap h (F.prev l k) y = false := by rw [hpv]; rfl
      by_cases hne : ls = []
      · subst hne
        have hls2 : F.rollS h w (F.prev l k) [] y = [y.text] := by unfold F.rollS; rw [hgp]; rfl
        have hB2 : F.lnsB (k + 1) [y.text] := hls2 ▸ F.lnsB_next hB hyt
        have n1 : decide ((0 : Int) ≤ IntKind.i64.wrap (((([] : List ByteArray).length : Nat) : Int) - 1)) = false := rfl
        have b1 : Nat.ble ((([] : List ByteArray).length + 1) * 16) 140737488355328 = true := rfl
        have a1 : ([] : List ByteArray).map eStr ++ [[vS y.text]] = [y.text].map eStr := rfl
        obtain ⟨q1, q2, q3, q4, q5⟩ := tail_facts (r := r) (ls := [y.text]) hR.2.1 (Nat.le_trans hB2.1 (by omega))
        cases hnx : l[k + 1]? with
        | none =>
          have e5 : decide (((k + 1 : Nat) : Int) < (l.length : Int)) = false := decide_eq_false (by have := List.getElem?_eq_none_iff.1 hnx; omega)
          have hS : F.sameT y l[k + 1]? = false := by rw [hnx]; rfl
          refine ⟨([y.text], out ++ [F.rollC h r ([y.text]) y l[k + 1]?], k + 1), ?_, rfl, ⟨by simp only; omega, by simp; omega, hB2⟩, by simp only; omega, ?_⟩
          · rw [evRlL]
            simp only [unRun, preRun1, unClF, preClF1, Option.bind_some, List.length_map, unWrds, unStrs, cond_true, cond_false, Bool.and_true, Bool.true_and, Bool.not_true, Bool.not_false, cast_lt hlt, decide_eq_true hlt, hN, getD_at hy, wT, hob, e1, n1, b1, a1, q1, q2, q3, q4, q5, Nat.zero_add, e5, hnx, F.rollC, F.toN, stRl, appWCaps]
            try rfl
          · simp only [outRl, hd, F.rollP, List.head?_drop, hls2, hp1, hS, cond_false, cond_true, List.append_assoc, List.singleton_append]
        | some v =>
          have hlv := lt_at hnx
          have e5 : decide (((k + 1 : Nat) : Int) < (l.length : Int)) = true := decide_eq_true (by omega)
          cases hs : (v.time == y.time)
          · have hS : F.sameT y l[k + 1]? = false := by rw [hnx]; exact hs
            refine ⟨([y.text], out ++ [F.rollC h r ([y.text]) y l[k + 1]?], k + 1), ?_, rfl, ⟨by simp only; omega, by simp; omega, hB2⟩, by simp only; omega, ?_⟩
            · rw [evRlL]
              simp only [unRun, preRun1, unClF, preClF1, Option.bind_some, List.length_map, unWrds, unStrs, cond_true, cond_false, Bool.and_true, Bool.true_and, Bool.not_true, Bool.not_false, cast_lt hlt, decide_eq_true hlt, hN, getD_at hy, wT, hob, e1, n1, b1, a1, q1, q2, q3, q4, q5, Nat.zero_add, e5, idx_nat, decide_eq_true hlv, getD_at hnx, hs, hnx, F.rollC, F.toN, stRl, appWCaps]
              try rfl
            · simp only [outRl, hd, F.rollP, List.head?_drop, hls2, hp1, hS, cond_false, cond_true, List.append_assoc, List.singleton_append]
          · have hS : F.sameT y l[k + 1]? = true := by rw [hnx]; exact hs
            refine ⟨([y.text], out, k + 1), ?_, rfl, ⟨by simp only; omega, by simp only; omega, hB2⟩, by simp only; omega, ?_⟩
            · rw [evRlL]
              simp only [unRun, preRun1, unClF, preClF1, Option.bind_some, List.length_map, unWrds, unStrs, cond_true, cond_false, Bool.and_true, Bool.true_and, Bool.not_true, Bool.not_false, cast_lt hlt, decide_eq_true hlt, hN, getD_at hy, wT, hob, e1, n1, b1, a1, q1, q2, q3, q4, q5, Nat.zero_add, e5, idx_nat, decide_eq_true hlv, getD_at hnx, hs, stRl]
              try rfl
            · simp only [outRl, hd, F.rollP, List.head?_drop, hls2, hp1, hS, cond_false, cond_true, List.append_assoc, List.singleton_append]
      · have hl0 : 0 < ls.length := List.length_pos_iff.2 hne
        have hz : ls[ls.length - 1]? = some ls[ls.length - 1] := List.getElem?_eq_getElem (by omega)
        have hemp : ls.isEmpty = false := by cases ls with
          | nil => exact absurd rfl hne
          | cons _ _ => rfl
        have hlast : F.lastL ls = ls[ls.length - 1] := getD_at hz
        generalize ls[ls.length - 1] = x at hz hlast
        have hxs := hB.2 x (List.mem_of_getElem? hz)
        have hrx := Lib.runeCount_le x
        have hry := Lib.runeCount_le y.text
        have n1 : decide ((0 : Int) ≤ IntKind.i64.wrap ((ls.length : Int) - 1)) = true := decide_eq_true (by rw [wrap_id (by omega) (by omega)]; omega)
        have n2 : idx (IntKind.i64.wrap ((ls.length : Int) - 1)) = some (ls.length - 1) := by rw [wrap_id (by omega) (by omega), show (ls.length : Int) - 1 = ((ls.length - 1 : Nat) : Int) by omega]; rfl
        have n3 : decide (ls.length - 1 < ls.length) = true := decide_eq_true (by omega)
        have s1 : decide (x.size ≤ 4294967280) = true := decide_eq_true (by omega)
        have s2 : decide (y.text.size ≤ 4294967280) = true := decide_eq_true (by omega)
        have w1 : IntKind.i64.wrap (F.runes x + 1) = F.runes x + 1 := wrap_id (by unfold F.runes; omega) (by unfold F.runes; omega)
        have w2 : IntKind.i64.wrap (F.runes x + 1 + F.runes y.text) = F.runes x + 1 + F.runes y.text := wrap_id (by unfold F.runes; omega) (by unfold F.runes; omega)
        have hfit : F.fits w ls y.text = decide (F.runes x + 1 + F.runes y.text ≤ w) := by unfold F.fits; rw [hemp, hlast]; rfl
        cases hf : decide (F.runes x + 1 + F.runes y.text ≤ w)
        · have hls2 : F.rollS h w (F.prev l k) ls y = ls ++ [y.text] := by unfold F.rollS; rw [hgp, cond_false]; unfold F.addW; rw [hfit, hf]; rfl
          have hB2 : F.lnsB (k + 1) (ls ++ [y.text]) := hls2 ▸ F.lnsB_next hB hyt
          have b1 : Nat.ble ((ls.length + 1) * 16) 140737488355328 = true := ble_t (by have := hB.1; omega)
          obtain ⟨q1, q2, q3, q4, q5⟩ := tail_facts (r := r) (ls := ls ++ [y.text]) hR.2.1 (Nat.le_trans hB2.1 (by omega))
          cases hnx : l[k + 1]? with
          | none =>
            have e5 : decide (((k + 1 : Nat) : Int) < (l.length : Int)) = false := decide_eq_false (by have := List.getElem?_eq_none_iff.1 hnx; omega)
            have hS : F.sameT y l[k + 1]? = false := by rw [hnx]; rfl
            refine ⟨(ls ++ [y.text], out ++ [F.rollC h r (ls ++ [y.text]) y l[k + 1]?], k + 1), ?_, rfl, ⟨by simp only; omega, by simp; omega, hB2⟩, by simp only; omega, ?_⟩
            · rw [evRlL]
              simp only [unRun, preRun1, unClF, preClF1, Option.bind_some, List.length_map, unWrds, unStrs, cond_true, cond_false, Bool.and_true, Bool.true_and, Bool.not_true, Bool.not_false, cast_lt hlt, decide_eq_true hlt, hN, getD_at hy, wT, hob, e1, n1, n2, n3, s1, s2, w1, w2, getD_at hz, hf, b1, appStrs', q1, q2, q3, q4, q5, Nat.zero_add, e5, hnx, F.rollC, F.toN, stRl, appWCaps]
              try rfl
            · simp only [outRl, hd, F.rollP, List.head?_drop, hls2, hp1, hS, cond_false, cond_true, List.append_assoc, List.singleton_append]
          | some v =>
            have hlv := lt_at hnx
            have e5 : decide (((k + 1 : Nat) : Int) < (l.length : Int)) = true := decide_eq_true (by omega)
            cases hs : (v.time == y.time)
            · have hS : F.sameT y l[k + 1]? = false := by rw [hnx]; exact hs
              refine ⟨(ls ++ [y.text], out ++ [F.rollC h r (ls ++ [y.text]) y l[k + 1]?], k + 1), ?_, rfl, ⟨by simp only; omega, by simp; omega, hB2⟩, by simp only; omega, ?_⟩
              · rw [evRlL]
                simp only [unRun, preRun1, unClF, preClF1, Option.bind_some, List.length_map, unWrds, unStrs, cond_true, cond_false, Bool.and_true, Bool.true_and, Bool.not_true, Bool.not_false, cast_lt hlt, decide_eq_true hlt, hN, getD_at hy, wT, hob, e1, n1, n2, n3, s1, s2, w1, w2, getD_at hz, hf, b1, appStrs', q1, q2, q3, q4, q5, Nat.zero_add, e5, idx_nat, decide_eq_true hlv, getD_at hnx, hs, hnx, F.rollC, F.toN, stRl, appWCaps]
                try rfl
              · simp only [outRl, hd, F.rollP, List.head?_drop, hls2, hp1, hS, cond_false, cond_true, List.append_assoc, List.singleton_append]
            · have hS : F.sameT y l[k + 1]? = true := by rw [hnx]; exact hs
              refine ⟨(ls ++ [y.text], out, k + 1), ?_, rfl, ⟨by simp only; omega, by simp only; omega, hB2⟩, by simp only; omega, ?_⟩
              · rw [evRlL]
                simp only [unRun, preRun1, unClF, preClF1, Option.bind_some, List.length_map, unWrds, unStrs, cond_true, cond_false, Bool.and_true, Bool.true_and, Bool.not_true, Bool.not_false, cast_lt hlt, decide_eq_true hlt, hN, getD_at hy, wT, hob, e1, n1, n2, n3, s1, s2, w1, w2, getD_at hz, hf, b1, appStrs', q1, q2, q3, q4, q5, Nat.zero_add, e5, idx_nat, decide_eq_true hlv, getD_at hnx, hs, stRl]
                try rfl
              · simp only [outRl, hd, F.rollP, List.head?_drop, hls2, hp1, hS, cond_false, cond_true, List.append_assoc, List.singleton_append]
        · have hls2 : F.rollS h w (F.prev l k) ls y = ls.set (ls.length - 1) (x ++ (F.sp ++ y.text)) := by unfold F.rollS; rw [hgp, cond_false]; unfold F.addW; rw [hfit, hf, hlast]; rfl
          have hB2 : F.lnsB (k + 1) (ls.set (ls.length - 1) (x ++ (F.sp ++ y.text))) := hls2 ▸ F.lnsB_next hB hyt
          have hspz : (F.sp ++ y.text).size = 1 + y.text.size := by rw [bsize_app]; rfl
          have b1 : Nat.ble (F.sp.size + y.text.size) 9223372036854775807 = true := ble_t (by have : F.sp.size = 1 := rfl; omega)
          have b2 : Nat.ble (x.size + (F.sp ++ y.text).size) 9223372036854775807 = true := ble_t (by omega)
          obtain ⟨q1, q2, q3, q4, q5⟩ := tail_facts (r := r) (ls := ls.set (ls.length - 1) (x ++ (F.sp ++ y.text))) hR.2.1 (Nat.le_trans hB2.1 (by omega))
          cases hnx : l[k + 1]? with
          | none =>
            have e5 : decide (((k + 1 : Nat) : Int) < (l.length : Int)) = false := decide_eq_false (by have := List.getElem?_eq_none_iff.1 hnx; omega)
            have hS : F.sameT y l[k + 1]? = false := by rw [hnx]; rfl
            refine ⟨(ls.set (ls.length - 1) (x ++ (F.sp ++ y.text)), out ++ [F.rollC h r (ls.set (ls.length - 1) (x ++ (F.sp ++ y.text))) y l[k + 1]?], k + 1), ?_, rfl, ⟨by simp only; omega, by simp; omega, hB2⟩, by simp only; omega, ?_⟩
            · rw [evRlL]
              simp only [unRun, preRun1, unClF, preClF1, Option.bind_some, List.length_map, unWrds, unStrs, cond_true, cond_false, Bool.and_true, Bool.true_and, Bool.not_true, Bool.not_false, cast_lt hlt, decide_eq_true hlt, hN, getD_at hy, wT, hob, e1, n1, n2, n3, s1, s2, w1, w2, getD_at hz, hf, esp, b1, b2, setStr, q1, q2, q3, q4, q5, Nat.zero_add, e5, hnx, F.rollC, F.toN, stRl, appWCaps]
              try rfl
            · simp only [outRl, hd, F.rollP, List.head?_drop, hls2, hp1, hS, cond_false, cond_true, List.append_assoc, List.singleton_append]
          | some v =>
            have hlv := lt_at hnx
            have e5 : decide (((k + 1 : Nat) : Int) < (l.length : Int)) = true := decide_eq_true (by omega)
            cases hs : (v.time == y.time)
            · have hS : F.sameT y l[k + 1]? = false := by rw [hnx]; exact hs
              refine ⟨(ls.set (ls.length - 1) (x ++ (F.sp ++ y.text)), out ++ [F.rollC h r (ls.set (ls.length - 1) (x ++ (F.sp ++ y.text))) y l[k + 1]?], k + 1), ?_, rfl, ⟨by simp only; omega, by simp; omega, hB2⟩, by simp only; omega, ?_⟩
              · rw [evRlL]
                simp only [unRun, preRun1, unClF, preClF1, Option.bind_some, List.length_map, unWrds, unStrs, cond_true, cond_false, Bool.and_true, Bool.true_and, Bool.not_true, Bool.not_false, cast_lt hlt, decide_eq_true hlt, hN, getD_at hy, wT, hob, e1, n1, n2, n3, s1, s2, w1, w2, getD_at hz, hf, esp, b1, b2, setStr, q1, q2, q3, q4, q5, Nat.zero_add, e5, idx_nat, decide_eq_true hlv, getD_at hnx, hs, hnx, F.rollC, F.toN, stRl, appWCaps]
                try rfl
              · simp only [outRl, hd, F.rollP, List.head?_drop, hls2, hp1, hS, cond_false, cond_true, List.append_assoc, List.singleton_append]
            · have hS : F.sameT y l[k + 1]? = true := by rw [hnx]; exact hs
              refine ⟨(ls.set (ls.length - 1) (x ++ (F.sp ++ y.text)), out, k + 1), ?_, rfl, ⟨by simp only; omega, by simp only; omega, hB2⟩, by simp only; omega, ?_⟩
              · rw [evRlL]
                simp only [unRun, preRun1, unClF, preClF1, Option.bind_some, List.length_map, unWrds, unStrs, cond_true, cond_false, Bool.and_true, Bool.true_and, Bool.not_true, Bool.not_false, cast_lt hlt, decide_eq_true hlt, hN, getD_at hy, wT, hob, e1, n1, n2, n3, s1, s2, w1, w2, getD_at hz, hf, esp, b1, b2, setStr, q1, q2, q3, q4, q5, Nat.zero_add, e5, idx_nat, decide_eq_true hlv, getD_at hnx, hs, stRl]
                try rfl
              · simp only [outRl, hd, F.rollP, List.head?_drop, hls2, hp1, hS, cond_false, cond_true, List.append_assoc, List.singleton_append]
    · have hlo := lt_at hoj
      have hoo := F.wrdOK_iff.1 (F.wrds_at h2 hoj)
      have e1 : decide ((0 : Int) < (k : Int)) = true := decide_eq_true (by omega)
      have e2 : idx (IntKind.i64.wrap ((k : Int) - 1)) = some j := by rw [wrap_id (by omega) (by omega), show (k : Int) - 1 = (j : Int) by omega]; rfl
      have w0 : IntKind.i64.wrap (y.time - o.time) = y.time - o.time := wrap_id (by omega) (by omega)
      cases hg : decide (h < y.time - o.time)
      · have hgp : F.gap h (F.prev l k) y = false := by rw [hpv]; exact hg
        by_cases hne : ls = []
        · subst hne
          have hls2 : F.rollS h w (F.prev l k) [] y = [y.text] := by unfold F.rollS; rw [hgp]; rfl
          have hB2 : F.lnsB (k + 1) [y.text] := hls2 ▸ F.lnsB_next hB hyt
          have n1 : decide ((0 : Int) ≤ IntKind.i64.wrap (((([] : List ByteArray).length : Nat) : Int) - 1)) = false := rfl
          have b1 : Nat.ble ((([] : List ByteArray).length + 1) * 16) 140737488355328 = true := rfl
          have a1 : ([] : List ByteArray).map eStr ++ [[vS y.text]] = [y.text].map eStr := rfl
          obtain ⟨q1, q2, q3, q4, q5⟩ := tail_facts (r := r) (ls := [y.text]) hR.2.1 (Nat.le_trans hB2.1 (by omega))
          cases hnx : l[k + 1]? with
          | none =>
            have e5 : decide (((k + 1 : Nat) : Int) < (l.length : Int)) = false := decide_eq_false (by have := List.getElem?_eq_none_iff.1 hnx; omega)
            have hS : F.sameT y l[k + 1]? = false := by rw [hnx]; rfl
            refine ⟨([y.text], out ++ [F.rollC h r ([y.text]) y l[k + 1]?], k + 1), ?_, rfl, ⟨by simp only; omega, by simp; omega, hB2⟩, by simp only; omega, ?_⟩
            · rw [evRlL]
              simp only [unRun, preRun1, unClF, preClF1, Option.bind_some, List.length_map, unWrds, unStrs, cond_true, cond_false, Bool.and_true, Bool.true_and, Bool.not_true, Bool.not_false, cast_lt hlt, decide_eq_true hlt, hN, getD_at hy, wT, hob, e1, e2, decide_eq_true hlo, getD_at hoj, w0, hg, n1, b1, a1, q1, q2, q3, q4, q5, Nat.zero_add, e5, hnx, F.rollC, F.toN, stRl, appWCaps]
              try rfl
            · simp only [outRl, hd, F.rollP, List.head?_drop, hls2, hp1, hS, cond_false, cond_true, List.append_assoc, List.singleton_append]
          | some v =>
            have hlv := lt_at hnx
            have e5 : decide (((k + 1 : Nat) : Int) < (l.length : Int)) = true := decide_eq_true (by omega)
            cases hs : (v.time == y.time)
            · have hS : F.sameT y l[k + 1]? = false := by rw [hnx]; exact hs
              refine ⟨([y.text], out ++ [F.rollC h r ([y.text]) y l[k + 1]?], k + 1), ?_, rfl, ⟨by simp only; omega, by simp; omega, hB2⟩, by simp only; omega, ?_⟩
              · rw [evRlL]
                simp only [unRun, preRun1, unClF, preClF1, Option.bind_some, List.length_map, unWrds, unStrs, cond_true, cond_false, Bool.and_true, Bool.true_and, Bool.not_true, Bool.not_false, cast_lt hlt, decide_eq_true hlt, hN, getD_at hy, wT, hob, e1, e2, decide_eq_true hlo, getD_at hoj, w0, hg, n1, b1, a1, q1, q2, q3, q4, q5, Nat.zero_add, e5, idx_nat, decide_eq_true hlv, getD_at hnx, hs, hnx, F.rollC, F.toN, stRl, appWCaps]
                try rfl
              · simp only [outRl, hd, F.rollP, List.head?_drop, hls2, hp1, hS, cond_false, cond_true, List.append_assoc, List.singleton_append]
            · have hS : F.sameT y l[k + 1]? = true := by rw [hnx]; exact hs
              refine ⟨([y.text], out, k + 1), ?_, rfl, ⟨by simp only; omega, by simp only; omega, hB2⟩, by simp only; omega, ?_⟩
              · rw [evRlL]
                simp only [unRun, preRun1, unClF, preClF1, Option.bind_some, List.length_map, unWrds, unStrs, cond_true, cond_false, Bool.and_true, Bool.true_and, Bool.not_true, Bool.not_false, cast_lt hlt, decide_eq_true hlt, hN, getD_at hy, wT, hob, e1, e2, decide_eq_true hlo, getD_at hoj, w0, hg, n1, b1, a1, q1, q2, q3, q4, q5, Nat.zero_add, e5, idx_nat, decide_eq_true hlv, getD_at hnx, hs, stRl]
                try rfl
              · simp only [outRl, hd, F.rollP, List.head?_drop, hls2, hp1, hS, cond_false, cond_true, List.append_assoc, List.singleton_append]
        · have hl0 : 0 < ls.length := List.length_pos_iff.2 hne
          have hz : ls[ls.length - 1]? = some ls[ls.length - 1] := List.getElem?_eq_getElem (by omega)
          have hemp : ls.isEmpty = false := by cases ls with
            | nil => exact absurd rfl hne
            | cons _ _ => rfl
          have hlast : F.lastL ls = ls[ls.length - 1] := getD_at hz
          generalize ls[ls.length - 1] = x at hz hlast
          have hxs := hB.2 x (List.mem_of_getElem? hz)
          have hrx := Lib.runeCount_le x
          have hry := Lib.runeCount_le y.text
          have n1 : decide ((0 : Int) ≤ IntKind.i64.wrap ((ls.length : Int) - 1)) = true := decide_eq_true (by rw [wrap_id (by omega) (by omega)]; omega)
          have n2 : idx (IntKind.i64.wrap ((ls.length : Int) - 1)) = some (ls.length - 1) := by rw [wrap_id (by omega) (by omega), show (ls.length : Int) - 1 = ((ls.length - 1 : Nat) : Int) by omega]; rfl
          have n3 : decide (ls.length - 1 < ls.length) = true := decide_eq_true (by omega)
          have s1 : decide (x.size ≤ 4294967280) = true := decide_eq_true (by omega)
          have s2 : decide (y.text.size ≤ 4294967280) = true := decide_eq_true (by omega)
          have w1 : IntKind.i64.wrap (F.runes x + 1) = F.runes x + 1 := wrap_id (by unfold F.runes; omega) (by unfold F.runes; omega)
          have w2 : IntKind.i64.wrap (F.runes x + 1 + F.runes y.text) = F.runes x + 1 + F.runes y.text := wrap_id (by unfold F.runes; omega) (by unfold F.runes; omega)
          have hfit : F.fits w ls y.text = decide (F.runes x + 1 + F.runes y.text ≤ w) := by unfold F.fits; rw [hemp, hlast]; rfl
          cases hf : decide (F.runes x + 1 + F.runes y.text ≤ w)
          · have hls2 : F.rollS h w (F.prev l k) ls y = ls ++ [y.text] := by unfold F.rollS; rw [hgp, cond_false]; unfold F.addW; rw [hfit, hf]; rfl
            have hB2 : F.lnsB (k + 1) (ls ++ [y.text]) := hls2 ▸ F.lnsB_next hB hyt
            have b1 : Nat.ble ((ls.length + 1) * 16) 140737488355328 = true := ble_t (by have := hB.1; omega)
            obtain ⟨q1, q2, q3, q4, q5⟩ := tail_facts (r := r) (ls := ls ++ [y.text]) hR.2.1 (Nat.le_trans hB2.1 (by omega))
            cases hnx : l[k + 1]? with
            | none =>
              have e5 : decide (((k + 1 : Nat) : Int) < (l.length : Int)) = false := decide_eq_false (by have := List.getElem?_eq_none_iff.1 hnx; omega)
              have hS : F.sameT y l[k + 1]? = false := by rw [hnx]; rfl
              refine ⟨(ls ++ [y.text], out ++ [F.rollC h r (ls ++ [y.text]) y l[k + 1]?], k + 1), ?_, rfl, ⟨by simp only; omega, by simp; omega, hB2⟩, by simp only; omega, ?_⟩
              · rw [evRlL]
                simp only [unRun, preRun1, unClF, preClF1, Option.bind_some, List.length_map, unWrds, unStrs, cond_true, cond_false, Bool.and_true, Bool.true_and, Bool.not_true, Bool.not_false, cast_lt hlt, decide_eq_true hlt, hN, getD_at hy, wT, hob, e1, e2, decide_eq_true hlo, getD_at hoj, w0, hg, n1, n2, n3, s1, s2, w1, w2, getD_at hz, hf, b1, appStrs', q1, q2, q3, q4, q5, Nat.zero_add, e5, hnx, F.rollC, F.toN, stRl, appWCaps]
                try rfl
              · simp only [outRl, hd, F.rollP, List.head?_drop, hls2, hp1, hS, cond_false, cond_true, List.append_assoc, List.singleton_append]
            | some v =>
              have hlv := lt_at hnx
              have e5 : decide (((k + 1 : Nat) : Int) < (l.length : Int)) = true := decide_eq_true (by omega)
              cases hs : (v.time == y.time)
              · have hS : F.sameT y l[k + 1]? = false := by rw [hnx]; exact hs
                refine ⟨(ls ++ [y.text], out ++ [F.rollC h r (ls ++ [y.text]) y l[k + 1]?], k + 1), ?_, rfl, ⟨by simp only; omega, by simp; omega, hB2⟩, by simp only; omega, ?_⟩
                · rw [evRlL]
                  simp only [unRun, preRun1, unClF, preClF1, Option.bind_some, List.length_map, unWrds, unStrs, cond_true, cond_false, Bool.and_true, Bool.true_and, Bool.not_true, Bool.not_false, cast_lt hlt, decide_eq_true hlt, hN, getD_at hy, wT, hob, e1, e2, decide_eq_true hlo, getD_at hoj, w0, hg, n1, n2, n3, s1, s2, w1, w2, getD_at hz, hf, b1, appStrs', q1, q2, q3, q4, q5, Nat.zero_add, e5, idx_nat, decide_eq_true hlv, getD_at hnx, hs, hnx, F.rollC, F.toN, stRl, appWCaps]
                  try rfl
                · simp only [outRl, hd, F.rollP, List.head?_drop, hls2, hp1, hS, cond_false, cond_true, List.append_assoc, List.singleton_append]
              · have hS : F.sameT y l[k + 1]? = true := by rw [hnx]; exact hs
                refine ⟨(ls ++ [y.text], out, k + 1), ?_, rfl, ⟨by simp only; omega, by simp only; omega, hB2⟩, by simp only; omega, ?_⟩
                · rw [evRlL]
                  simp only [unRun, preRun1, unClF, preClF1, Option.bind_some, List.length_map, unWrds, unStrs, cond_true, cond_false, Bool.and_true, Bool.true_and, Bool.not_true, Bool.not_false, cast_lt hlt, decide_eq_true hlt, hN, getD_at hy, wT, hob, e1, e2, decide_eq_true hlo, getD_at hoj, w0, hg, n1, n2, n3, s1, s2, w1, w2, getD_at hz, hf, b1, appStrs', q1, q2, q3, q4, q5, Nat.zero_add, e5, idx_nat, decide_eq_true hlv, getD_at hnx, hs, stRl]
                  try rfl
                · simp only [outRl, hd, F.rollP, List.head?_drop, hls2, hp1, hS, cond_false, cond_true, List.append_assoc, List.singleton_append]
          · have hls2 : F.rollS h w (F.prev l k) ls y = ls.set (ls.length - 1) (x ++ (F.sp ++ y.text)) := by unfold F.rollS; rw [hgp, cond_false]; unfold F.addW; rw [hfit, hf, hlast]; rfl
            have hB2 : F.lnsB (k + 1) (ls.set (ls.length - 1) (x ++ (F.sp ++ y.text))) := hls2 ▸ F.lnsB_next hB hyt
            have hspz : (F.sp ++ y.text).size = 1 + y.text.size := by rw [bsize_app]; rfl
            have b1 : Nat.ble (F.sp.size + y.text.size) 9223372036854775807 = true := ble_t (by have : F.sp.size = 1 := rfl; omega)
            have b2 : Nat.ble (x.size + (F.sp ++ y.text).size) 9223372036854775807 = true := ble_t (by omega)
            obtain ⟨q1, q2, q3, q4, q5⟩ := tail_facts (r := r) (ls := ls.set (ls.length - 1) (x ++ (F.sp ++ y.text))) hR.2.1 (Nat.le_trans hB2.1 (by omega))
            cases hnx : l[k + 1]? with
            | none =>
              have e5 : decide (((k + 1 : Nat) : Int) < (l.length : Int)) = false := decide_eq_false (by have := List.getElem?_eq_none_iff.1 hnx; omega)
              have hS : F.sameT y l[k + 1]? = false := by rw [hnx]; rfl
              refine ⟨(ls.set (ls.length - 1) (x ++ (F.sp ++ y.text)), out ++ [F.rollC h r (ls.set (ls.length - 1) (x ++ (F.sp ++ y.text))) y l[k + 1]?], k + 1), ?_, rfl, ⟨by simp only; omega, by simp; omega, hB2⟩, by simp only; omega, ?_⟩
              · rw [evRlL]
                simp only [unRun, preRun1, unClF, preClF1, Option.bind_some, List.length_map, unWrds, unStrs, cond_true, cond_false, Bool.and_true, Bool.true_and, Bool.not_true, Bool.not_false, cast_lt hlt, decide_eq_true hlt, hN, getD_at hy, wT, hob, e1, e2, decide_eq_true hlo, getD_at hoj, w0, hg, n1, n2, n3, s1, s2, w1, w2, getD_at hz, hf, esp, b1, b2, setStr, q1, q2, q3, q4, q5, Nat.zero_add, e5, hnx, F.rollC, F.toN, stRl, appWCaps]
                try rfl
              · simp only [outRl, hd, F.rollP, List.head?_drop, hls2, hp1, hS, cond_false, cond_true, List.append_assoc, List.singleton_append]
            | some v =>
              have hlv := lt_at hnx
              have e5 : decide (((k + 1 : Nat) : Int) < (l.length : Int)) = true := decide_eq_true (by omega)
              cases hs : (v.time == y.time)
              · have hS : F.sameT y l[k + 1]? = false := by rw [hnx]; exact hs
                refine ⟨(ls.set (ls.length - 1) (x ++ (F.sp ++ y.text)), out ++ [F.rollC h r (ls.set (ls.length - 1) (x ++ (F.sp ++ y.text))) y l[k + 1]?], k + 1), ?_, rfl, ⟨by simp only; omega, by simp; omega, hB2⟩, by simp only; omega, ?_⟩
                · rw [evRlL]
                  simp only [unRun, preRun1, unClF, preClF1, Option.bind_some, List.length_map, unWrds, unStrs, cond_true, cond_false, Bool.and_true, Bool.true_and, Bool.not_true, Bool.not_false, cast_lt hlt, decide_eq_true hlt, hN, getD_at hy, wT, hob, e1, e2, decide_eq_true hlo, getD_at hoj, w0, hg, n1, n2, n3, s1, s2, w1, w2, getD_at hz, hf, esp, b1, b2, setStr, q1, q2, q3, q4, q5, Nat.zero_add, e5, idx_nat, decide_eq_true hlv, getD_at hnx, hs, hnx, F.rollC, F.toN, stRl, appWCaps]
                  try rfl
                · simp only [outRl, hd, F.rollP, List.head?_drop, hls2, hp1, hS, cond_false, cond_true, List.append_assoc, List.singleton_append]
              · have hS : F.sameT y l[k + 1]? = true := by rw [hnx]; exact hs
                refine ⟨(ls.set (ls.length - 1) (x ++ (F.sp ++ y.text)), out, k + 1), ?_, rfl, ⟨by simp only; omega, by simp only; omega, hB2⟩, by simp only; omega, ?_⟩
                · rw [evRlL]
                  simp only [unRun, preRun1, unClF, preClF1, Option.bind_some, List.length_map, unWrds, unStrs, cond_true, cond_false, Bool.and_true, Bool.true_and, Bool.not_true, Bool.not_false, cast_lt hlt, decide_eq_true hlt, hN, getD_at hy, wT, hob, e1, e2, decide_eq_true hlo, getD_at hoj, w0, hg, n1, n2, n3, s1, s2, w1, w2, getD_at hz, hf, esp, b1, b2, setStr, q1, q2, q3, q4, q5, Nat.zero_add, e5, idx_nat, decide_eq_true hlv, getD_at hnx, hs, stRl]
                  try rfl
                · simp only [outRl, hd, F.rollP, List.head?_drop, hls2, hp1, hS, cond_false, cond_true, List.append_assoc, List.singleton_append]
      · have hgp : F.gap h (F.prev l k) y = true := by rw [hpv]; exact hg
        have hls2 : F.rollS h w (F.prev l k) ls y = [y.text] := by unfold F.rollS; rw [hgp]; rfl
        have hB2 : F.lnsB (k + 1) [y.text] := hls2 ▸ F.lnsB_next hB hyt
        have g1 : idx (max 0 (IntKind.i64.wrap (((1 : Nat) : Int) - r))) = some 0 := by rw [wrap_id (by omega) (by omega), show max 0 (((1 : Nat) : Int) - r) = ((0 : Nat) : Int) by omega]; rfl
        have g2 : Nat.ble 0 1 = true := rfl
        have g3 : List.take (1 - 0) (List.drop (0 + 0) [[vS y.text]]) = [y.text].map eStr := rfl
        have hlr : F.lastR r [y.text] = [y.text] := by unfold F.lastR; rw [show ([y.text] : List ByteArray).length - r.toNat = 0 by simp; omega]; rfl
        have dOne : decide (([y.text] : List ByteArray).length ≤ 1000) = true := rfl
        have one_str : [[vS y.text]] = [y.text].map eStr := rfl
        cases hnx : l[k + 1]? with
        | none =>
          have e5 : decide (((k + 1 : Nat) : Int) < (l.length : Int)) = false := decide_eq_false (by have := List.getElem?_eq_none_iff.1 hnx; omega)
          have hS : F.sameT y l[k + 1]? = false := by rw [hnx]; rfl
          refine ⟨([y.text], out ++ [F.rollC h r ([y.text]) y l[k + 1]?], k + 1), ?_, rfl, ⟨by simp only; omega, by simp; omega, hB2⟩, by simp only; omega, ?_⟩
          · rw [evRlL]
            simp only [unRun, preRun1, unClF, preClF1, Option.bind_some, List.length_map, unWrds, unStrs, cond_true, cond_false, Bool.and_true, Bool.true_and, Bool.not_true, Bool.not_false, cast_lt hlt, decide_eq_true hlt, hN, getD_at hy, wT, hob, e1, e2, decide_eq_true hlo, getD_at hoj, w0, hg, g1, g2, g3, hlr, dOne, e5, hnx, F.rollC, F.toN, stRl, appWCaps]
            try rfl
          · simp only [outRl, hd, F.rollP, List.head?_drop, hls2, hp1, hS, cond_false, cond_true, List.append_assoc, List.singleton_append]
        | some v =>
          have hlv := lt_at hnx
          have e5 : decide (((k + 1 : Nat) : Int) < (l.length : Int)) = true := decide_eq_true (by omega)
          cases hs : (v.time == y.time)
          · have hS : F.sameT y l[k + 1]? = false := by rw [hnx]; exact hs
            refine ⟨([y.text], out ++ [F.rollC h r ([y.text]) y l[k + 1]?], k + 1), ?_, rfl, ⟨by simp only; omega, by simp; omega, hB2⟩, by simp only; omega, ?_⟩
            · rw [evRlL]
              simp only [unRun, preRun1, unClF, preClF1, Option.bind_some, List.length_map, unWrds, unStrs, cond_true, cond_false, Bool.and_true, Bool.true_and, Bool.not_true, Bool.not_false, cast_lt hlt, decide_eq_true hlt, hN, getD_at hy, wT, hob, e1, e2, decide_eq_true hlo, getD_at hoj, w0, hg, g1, g2, g3, hlr, dOne, e5, idx_nat, decide_eq_true hlv, getD_at hnx, hs, hnx, F.rollC, F.toN, stRl, appWCaps]
              try rfl
            · simp only [outRl, hd, F.rollP, List.head?_drop, hls2, hp1, hS, cond_false, cond_true, List.append_assoc, List.singleton_append]
          · have hS : F.sameT y l[k + 1]? = true := by rw [hnx]; exact hs
            refine ⟨([y.text], out, k + 1), ?_, rfl, ⟨by simp only; omega, by simp only; omega, hB2⟩, by simp only; omega, ?_⟩
            · rw [evRlL]
              simp only [unRun, preRun1, unClF, preClF1, Option.bind_some, List.length_map, unWrds, unStrs, cond_true, cond_false, Bool.and_true, Bool.true_and, Bool.not_true, Bool.not_false, cast_lt hlt, decide_eq_true hlt, hN, getD_at hy, wT, hob, e1, e2, decide_eq_true hlo, getD_at hoj, w0, hg, g1, g2, g3, hlr, dOne, e5, idx_nat, decide_eq_true hlv, getD_at hnx, hs, stRl]
              try rfl
            · simp only [outRl, hd, F.rollP, List.head?_drop, hls2, hp1, hS, cond_false, cond_true, List.append_assoc, List.singleton_append]
  · have : k = l.length := by omega
    subst this
    left
    refine ⟨(.exit 0, ⟨[(11, .own 11)], [(11, ⟨false, 32, 6, out.map eCap⟩)]⟩), ?_, ?_, by simp, rfl⟩
    · rw [evRlL]; simp
    · simp only [outRl, List.drop_length, F.rollP, List.append_nil]
      rfl

end M
end Go.Proofs.YtdmccifaggmmkaaDoor
