/- What is proved here: the reference's ReadMaster reads what the program's does (no statement of the seat). -/
import Derived.Test.YtipngpndgniagaaGreatDoorE63
namespace Go.Proofs.YtipngpndgniagaaGreatDoor
open Go Go.RowKit
set_option linter.unusedVariables false
set_option linter.unusedSimpArgs false

theorem F.smE_at {ls : List ByteArray} {a : Nat} (h : F.smE ls = true) (ha : a < ls.length) : (F.lAt ls a).size ≤ 500000 := by
  unfold F.lAt
  simp only [List.getD, List.getElem?_eq_getElem ha, Option.getD_some]
  exact of_decide_eq_true (List.all_eq_true.1 h _ (List.getElem_mem ha))

theorem F.lnL_smE : ∀ (n : Nat) (s : ByteArray), s.size ≤ n → s.size ≤ 500000 → F.smE (F.lnL s) = true := by
  intro n
  induction n with
  | zero => intro s h h2; rw [F.lnL_nil (by omega)]; rfl
  | succ n ih =>
    intro s h h2
    by_cases h0 : s.size = 0
    · rw [F.lnL_nil h0]; rfl
    · have z := F.cutT_lt (p := F.nl) (by decide) h0
      have z1 := F.cutH_size s F.nl
      have := ih (F.cutT s F.nl) (by omega) (by omega)
      rw [F.lnL_cons h0]
      unfold F.smE at this ⊢
      rw [List.all_cons, this, decide_eq_true (by omega)]
      rfl

theorem F.rrS_le (ls : List ByteArray) (op : Bool) : ∀ (k a : Nat) (m : Mas), ls.length - a ≤ k → a ≤ ls.length → (F.rrS ls op a m).2.1 ≤ ls.length := by
  intro k
  induction k with
  | zero =>
    intro a m h h1
    rw [F.rrS_no m (by cases hm : F.mor ls op a; rfl; exact absurd (F.mor_lt hm) (by omega))]
    exact h1
  | succ k ih =>
    intro a m h h1
    cases hm : F.mor ls op a
    · rw [F.rrS_no m hm]; exact h1
    have hlt := F.mor_lt hm
    cases hb : F.rBad (F.lW ls a) m
    rotate_left
    · rw [F.rrS_bad hm hb]; exact h1
    cases hu : F.ruri ls op (a + 1)
    · rw [F.rrS_uri hm hb hu]; exact hlt
    have hlt2 : a + 1 < ls.length := by
      unfold F.ruri at hu
      rw [Bool.and_eq_true] at hu
      exact F.mor_lt hu.1
    by_cases he : a + 2 = ls.length
    · rw [F.rrS_end hm hb hu he]; exact hlt2
    · rw [F.rrS_go hm hb hu he]; exact ih _ _ (by omega) (by omega)

/-- The first line is that of a list of all renditions. -/
def F.exM (s : ByteArray) : Bool := F.exa (F.lnL s) (F.opA false s) 0 F.kMas

theorem F.at0 (s : ByteArray) : F.At (F.lnL s) (F.opA false s) 0 s := ⟨rfl, Nat.zero_le _, fun _ => rfl⟩

theorem F.exM_eq (s : ByteArray) : F.exM s = (F.cutF s F.nl && F.seq (F.cutH s F.nl) F.kMas) := by
  unfold F.exM F.exa
  by_cases h0 : s.size = 0
  · rw [((F.at0 s).nil h0).2, F.cutF_nil h0]; rfl
  · obtain ⟨_, e1, e2, _⟩ := (F.at0 s).cons h0
    rw [e1, e2]

theorem F.rAdd_len (w : List ByteArray) (u : ByteArray) (m : Mas) : (F.rAdd w u m).streams.length + (F.rAdd w u m).sounds.length = m.streams.length + m.sounds.length + 1 := by
  unfold F.rAdd
  cases F.isSnd w <;> simp <;> omega

namespace M

def outRq (ls : List ByteArray) (op : Bool) (a : Nat) (ok : Bool) (m : Mas) : T (Ex × St) :=
  .ifB (ok && (F.rrS ls op a m).1)
      (.ret (.ret, ⟨[(4, vI (F.chkM (F.rrS ls op a m).2.2)), (3, vI 0), (2, .ptr 2 0 0)], [(2, ⟨true, 0, 0, [[.sl ((F.okM (F.rrS ls op a m).2.2).streams.map eStrm), .sl ((F.okM (F.rrS ls op a m).2.2).sounds.map eSnd)]]⟩)]⟩))
      (.ret (.exit 0, stRq ls op (bif ok then (F.rrS ls op a m).2.1 else a) ok (bif ok then (F.rrS ls op a m).2.2 else m).streams (bif ok then (F.rrS ls op a m).2.2 else m).sounds))

theorem lpRq_ok (ls : List ByteArray) (op ok : Bool) (a : Nat) (m : Mas) (h1 : ls.length ≤ 500000) (h2 : F.smE ls = true) (h3 : m.streams.length + m.sounds.length ≤ a) (h4 : a ≤ 500001) : ∀ ex s', (outRq ls op a ok m).val = some (ex, s') → LoopOK enRr (loopN Tryz.f5 0) (stRq ls op a ok m.streams m.sounds) ex s' := by
  refine loop_gen (st := fun p : Nat × Mas => stRq ls op p.1 ok p.2.streams p.2.sounds) (out := fun p => outRq ls op p.1 ok p.2) (I := fun p => p.2.streams.length + p.2.sounds.length ≤ p.1 ∧ p.1 ≤ 500001) (n := ([7, 6, 5, 2], [22001, 22000, 891, 890, 6, 2])) (e := ([7, 6, 5, 2], [22001, 22000, 891, 890, 6, 2])) (r := ([4, 3, 2], [2])) (fun p => ls.length + 1 - p.1) ?_ (a, m) ⟨h3, h4⟩
  clear h3 h4
  rintro ⟨a, m⟩ ⟨h3, h4⟩
  obtain ⟨st, so⟩ := m
  simp only at h3 h4
  have p1 : decide (a ≤ 600000) = true := decide_eq_true (by omega)
  have p2 : decide (ls.length ≤ 600000) = true := decide_eq_true (by omega)
  have p3 : decide (a + 1 ≤ 600000) = true := decide_eq_true (by omega)
  have hw : IntKind.i64.wrap ((a : Int) + 1) = ((a + 1 : Nat) : Int) := by rw [wrap_id (by omega) (by omega)]; rfl
  have hi : idx (a : Int) = some a := rfl
  have hi1 : idx ((a + 1 : Nat) : Int) = some (a + 1) := rfl
  have stop : ok = false ∨ F.mor ls op a = false → ((exec enRr (loopN Tryz.f5 0) (stRq ls op a ok st so)).bind (lessX ([7, 6, 5, 2], [22001, 22000, 891, 890, 6, 2]) ([7, 6, 5, 2], [22001, 22000, 891, 890, 6, 2]) ([4, 3, 2], [2]))).val = some (.exit 0, stRq ls op a ok st so) := by
    intro h
    rw [evRq]
    rcases h with h | h
    · subst h; rfl
    · cases ok
      · rfl
      · simp only [unRMor, unRWds, unRSn, unRSt, unRMs, unDvd, unRExa, unRUri, unRMsw, preRMor1, preRWds1, preRSn1, preRSt1, preRMs1, preDvd1, preRExa1, preRUri1, unstRr, prlRr, outRr, etaEnt, etaLst, etaSnd, etaStrm, etaMas, Option.bind_some, List.length_map, unStrs, unInts, unBools, unEnts, unItms, unTrns, cond_true, cond_false, Bool.and_true, Bool.true_and, p1, p2, hi, h]
        rfl
  by_cases hok : ok = true
  rotate_left
  · have hok : ok = false := by cases ok <;> simp_all
    left
    refine ⟨(.exit 0, stRq ls op a ok st so), stop (.inl hok), ?_, by simp, rfl⟩
    subst hok; rfl
  subst hok
  by_cases hm : F.mor ls op a = true
  rotate_left
  · have hm : F.mor ls op a = false := by cases h : F.mor ls op a <;> simp_all
    left
    refine ⟨(.exit 0, stRq ls op a true st so), stop (.inr hm), ?_, by simp, rfl⟩
    simp only [outRq, F.rrS_no _ hm]
    rfl
  clear stop
  have hlt := F.mor_lt hm
  have dlt : decide (a < ls.length) = true := decide_eq_true hlt
  have q : ls.getD a (⟨⟨[]⟩⟩ : ByteArray) = F.lAt ls a := rfl
  have sz : decide ((F.lAt ls a).size ≤ 500000) = true := decide_eq_true (F.smE_at h2 hlt)
  have bad : F.rBad (F.lW ls a) ⟨st, so⟩ = true → ((exec enRr (loopN Tryz.f5 0) (stRq ls op a true st so)).bind (lessX ([7, 6, 5, 2], [22001, 22000, 891, 890, 6, 2]) ([7, 6, 5, 2], [22001, 22000, 891, 890, 6, 2]) ([4, 3, 2], [2]))).val = some (.exit 0, stRq ls op a true st so) := by
    intro hb
    rw [evRq]
    have e0 : decide ((0 : Int) < (st.length : Int)) = decide (0 < st.length) := decide_eq_decide.2 (by omega)
    unfold F.rBad F.lW at hb
    simp only at hb
    cases hwo : F.wOk (F.wds (F.lAt ls a))
    · simp only [unRMor, unRWds, unRSn, unRSt, unRMs, unDvd, unRExa, unRUri, unRMsw, preRMor1, preRWds1, preRSn1, preRSt1, preRMs1, preDvd1, preRExa1, preRUri1, unstRr, prlRr, outRr, etaEnt, etaLst, etaSnd, etaStrm, etaMas, Option.bind_some, List.length_map, unStrs, unInts, unBools, unEnts, unItms, unTrns, cond_true, cond_false, Bool.and_true, Bool.true_and, p1, p2, hi, hm, dlt, q, sz, hwo]
      rfl
    · rw [hwo] at hb
      cases hz : F.isSnd (F.wds (F.lAt ls a)) <;> cases hs : F.isStr (F.wds (F.lAt ls a)) <;> cases hn : F.numsOk (F.wds (F.lAt ls a)) <;> cases hl : decide (0 < st.length) <;> (rw [hz, hs, hn, hl] at hb; first | (cases hb; done) | (simp only [unRMor, unRWds, unRSn, unRSt, unRMs, unDvd, unRExa, unRUri, unRMsw, preRMor1, preRWds1, preRSn1, preRSt1, preRMs1, preDvd1, preRExa1, preRUri1, unstRr, prlRr, outRr, etaEnt, etaLst, etaSnd, etaStrm, etaMas, Option.bind_some, List.length_map, unStrs, unInts, unBools, unEnts, unItms, unTrns, cond_true, cond_false, Bool.and_true, Bool.true_and, p1, p2, hi, hm, dlt, q, sz, hwo, hz, hs, hn, e0, hl]; rfl))
  by_cases hb : F.rBad (F.lW ls a) ⟨st, so⟩ = true
  · left
    refine ⟨(.exit 0, stRq ls op a true st so), bad hb, ?_, by simp, rfl⟩
    simp only [outRq, F.rrS_bad hm hb]
    rfl
  have hb : F.rBad (F.lW ls a) ⟨st, so⟩ = false := by cases h : F.rBad (F.lW ls a) ⟨st, so⟩ <;> simp_all
  clear bad
  have hb' := hb
  have e0 : decide ((0 : Int) < (st.length : Int)) = decide (0 < st.length) := decide_eq_decide.2 (by omega)
  unfold F.rBad F.lW at hb'
  simp only at hb'
  have hwo : F.wOk (F.wds (F.lAt ls a)) = true := by cases h : F.wOk (F.wds (F.lAt ls a)) <;> simp_all
  rw [hwo] at hb'
  have hx : F.isSnd (F.wds (F.lAt ls a)) = true → F.isStr (F.wds (F.lAt ls a)) = true → False := F.snd_str
  have b1 : Nat.ble ((so.length + 1) * 72) 140737488355328 = true := ble_t (by omega)
  have b2 : Nat.ble ((st.length + 1) * 80) 140737488355328 = true := ble_t (by omega)
  have e1 : (((a + 1 + 1 : Nat) : Int) == (ls.length : Int)) = decide (a + 2 = ls.length) := by
    by_cases h : a + 2 = ls.length
    · rw [decide_eq_true h]; simp; omega
    · rw [decide_eq_false h]; simp; omega
  have hl := F.rAdd_len (F.lW ls a) (F.lAt ls (a + 1)) ⟨st, so⟩
  simp only at hl
  have go : ∀ (st1 : List Strm) (so1 : List Snd), F.rAdd (F.lW ls a) (F.lAt ls (a + 1)) ⟨st, so⟩ = ⟨st1, so1⟩ →
      ((exec enRr (loopN Tryz.f5 0) (stRq ls op a true st so)).bind (lessX ([7, 6, 5, 2], [22001, 22000, 891, 890, 6, 2]) ([7, 6, 5, 2], [22001, 22000, 891, 890, 6, 2]) ([4, 3, 2], [2]))).val =
        (bif F.ruri ls op (a + 1) then (bif decide (a + 2 = ls.length) then some (.ret, ⟨[(4, vI (F.chkM ⟨st1, so1⟩)), (3, vI 0), (2, .ptr 2 0 0)], [(2, ⟨true, 0, 0, [[.sl ((F.okM ⟨st1, so1⟩).streams.map eStrm), .sl ((F.okM ⟨st1, so1⟩).sounds.map eSnd)]]⟩)]⟩) else some (.normal, stRq ls op (a + 2) true st1 so1)) else some (.exit 0, stRq ls op (a + 1) true st so)) →
      (∃ o, ((exec enRr (loopN Tryz.f5 0) (stRq ls op a true st so)).bind (lessX ([7, 6, 5, 2], [22001, 22000, 891, 890, 6, 2]) ([7, 6, 5, 2], [22001, 22000, 891, 890, 6, 2]) ([4, 3, 2], [2]))).val = some o ∧ (outRq ls op a true ⟨st, so⟩).val = some o ∧ o.1 ≠ .normal ∧ closedB o.2 = true) ∨
      (∃ a' : Nat × Mas, ((exec enRr (loopN Tryz.f5 0) (stRq ls op a true st so)).bind (lessX ([7, 6, 5, 2], [22001, 22000, 891, 890, 6, 2]) ([7, 6, 5, 2], [22001, 22000, 891, 890, 6, 2]) ([4, 3, 2], [2]))).val = some (.normal, stRq ls op a'.1 true a'.2.streams a'.2.sounds) ∧ closedB (stRq ls op a'.1 true a'.2.streams a'.2.sounds) = true ∧ (a'.2.streams.length + a'.2.sounds.length ≤ a'.1 ∧ a'.1 ≤ 500001) ∧ ls.length + 1 - a'.1 < ls.length + 1 - a ∧ (outRq ls op a'.1 true a'.2).val = (outRq ls op a true ⟨st, so⟩).val) := by
    intro st1 so1 hr he
    rw [he]
    have hl1 : st1.length + so1.length = st.length + so.length + 1 := by rw [hr] at hl; exact hl
    cases hu : F.ruri ls op (a + 1)
    · left
      refine ⟨_, rfl, ?_, by simp, rfl⟩
      simp only [outRq, F.rrS_uri hm hb hu]
      rfl
    · have hlt2 : a + 1 < ls.length := by
        unfold F.ruri at hu
        rw [Bool.and_eq_true] at hu
        exact F.mor_lt hu.1
      by_cases hd : a + 2 = ls.length
      · left
        rw [decide_eq_true hd]
        refine ⟨_, rfl, ?_, by simp, rfl⟩
        simp only [outRq, F.rrS_end hm hb hu hd, hr]
        rfl
      · right
        rw [decide_eq_false hd]
        refine ⟨(a + 2, ⟨st1, so1⟩), rfl, rfl, ⟨by simp only; omega, by simp only; omega⟩, by simp only; omega, ?_⟩
        simp only [outRq, F.rrS_go hm hb hu hd, hr]
        rfl
  cases hz : F.isSnd (F.wds (F.lAt ls a))
  · have hs : F.isStr (F.wds (F.lAt ls a)) = true := by
      cases h : F.isStr (F.wds (F.lAt ls a))
      · rw [hz, h] at hb'; simp at hb'
      · rfl
    have hn : F.numsOk (F.wds (F.lAt ls a)) = true := by
      cases h : F.numsOk (F.wds (F.lAt ls a))
      · rw [hz, hs, h] at hb'; simp at hb'
      · rfl
    have hR : F.strR (F.wds (F.lAt ls a)) = F.strOf (F.wds (F.lAt ls a)) ⟨⟨[]⟩⟩ := by unfold F.strR; rw [hs, hn]; rfl
    have k : (List.map eStrm st ++ [[vS (F.strR (F.wds (F.lAt ls a))).name, vS (F.lAt ls (a + 1)), vI (F.strR (F.wds (F.lAt ls a))).mean, vI (F.strR (F.wds (F.lAt ls a))).peak, vI (F.strR (F.wds (F.lAt ls a))).width, vI (F.strR (F.wds (F.lAt ls a))).height, vS (F.strR (F.wds (F.lAt ls a))).sound]]) = List.map eStrm (st ++ [F.strOf (F.wds (F.lAt ls a)) (F.lAt ls (a + 1))]) := by
      rw [List.map_append, hR]; rfl
    refine go (st ++ [F.strOf (F.wds (F.lAt ls a)) (F.lAt ls (a + 1))]) so (by unfold F.rAdd F.lW; rw [hz]; rfl) ?_
    rw [evRq]
    cases hu : F.ruri ls op (a + 1)
    · simp only [unRMor, unRWds, unRSn, unRSt, unRMs, unDvd, unRExa, unRUri, unRMsw, preRMor1, preRWds1, preRSn1, preRSt1, preRMs1, preDvd1, preRExa1, preRUri1, unstRr, prlRr, outRr, etaEnt, etaLst, etaSnd, etaStrm, etaMas, Option.bind_some, List.length_map, unStrs, unInts, unBools, unEnts, unItms, unTrns, cond_true, cond_false, Bool.and_true, Bool.true_and, p1, p2, p3, hi, hi1, hw, hm, dlt, q, sz, hwo, hz, hs, hn, hu, F.one]
      rfl
    · simp only [unRMor, unRWds, unRSn, unRSt, unRMs, unDvd, unRExa, unRUri, unRMsw, preRMor1, preRWds1, preRSn1, preRSt1, preRMs1, preDvd1, preRExa1, preRUri1, unstRr, prlRr, outRr, etaEnt, etaLst, etaSnd, etaStrm, etaMas, Option.bind_some, List.length_map, unStrs, unInts, unBools, unEnts, unItms, unTrns, cond_true, cond_false, Bool.and_true, Bool.true_and, p1, p2, p3, hi, hi1, hw, hm, dlt, q, sz, hwo, hz, hs, hn, hu, F.one, b2, e1, k]
      cases decide (a + 2 = ls.length) <;> rfl
  · have hs : F.isStr (F.wds (F.lAt ls a)) = false := by
      cases h : F.isStr (F.wds (F.lAt ls a))
      · rfl
      · exact (hx hz h).elim
    have hl0 : decide (0 < st.length) = false := by
      cases h : decide (0 < st.length)
      · rfl
      · rw [hz, hs, h] at hb'; simp at hb'
    have hR : F.sndR (F.wds (F.lAt ls a)) = F.sndOf (F.wds (F.lAt ls a)) ⟨⟨[]⟩⟩ := by unfold F.sndR; rw [hz]; rfl
    have k : (List.map eSnd so ++ [[vS (F.sndR (F.wds (F.lAt ls a))).group, vS (F.sndR (F.wds (F.lAt ls a))).name, vS (F.sndR (F.wds (F.lAt ls a))).lang, vB (F.sndR (F.wds (F.lAt ls a))).dflt, vS (F.lAt ls (a + 1))]]) = List.map eSnd (so ++ [F.sndOf (F.wds (F.lAt ls a)) (F.lAt ls (a + 1))]) := by
      rw [List.map_append, hR]; rfl
    refine go st (so ++ [F.sndOf (F.wds (F.lAt ls a)) (F.lAt ls (a + 1))]) (by unfold F.rAdd F.lW; rw [hz]; rfl) ?_
    rw [evRq]
    cases hu : F.ruri ls op (a + 1)
    · simp only [unRMor, unRWds, unRSn, unRSt, unRMs, unDvd, unRExa, unRUri, unRMsw, preRMor1, preRWds1, preRSn1, preRSt1, preRMs1, preDvd1, preRExa1, preRUri1, unstRr, prlRr, outRr, etaEnt, etaLst, etaSnd, etaStrm, etaMas, Option.bind_some, List.length_map, unStrs, unInts, unBools, unEnts, unItms, unTrns, cond_true, cond_false, Bool.and_true, Bool.true_and, p1, p2, p3, hi, hi1, hw, hm, dlt, q, sz, hwo, hz, hs, hu, F.one, e0, hl0]
      rfl
    · simp only [unRMor, unRWds, unRSn, unRSt, unRMs, unDvd, unRExa, unRUri, unRMsw, preRMor1, preRWds1, preRSn1, preRSt1, preRMs1, preDvd1, preRExa1, preRUri1, unstRr, prlRr, outRr, etaEnt, etaLst, etaSnd, etaStrm, etaMas, Option.bind_some, List.length_map, unStrs, unInts, unBools, unEnts, unItms, unTrns, cond_true, cond_false, Bool.and_true, Bool.true_and, p1, p2, p3, hi, hi1, hw, hm, dlt, q, sz, hwo, hz, hs, hu, F.one, e0, hl0, b1, e1, k]
      cases decide (a + 2 = ls.length) <;> rfl

theorem lpRr_ok (ls : List ByteArray) (op : Bool) (a : Nat) (ok : Bool) (hp : prlRr ls op a ok = true) : ∀ ex s', (outRr ls op a ok).val = some (ex, s') → LoopOK enRr (loopN Tryz.f5 0) (stRr ls op a ok) ex s' := by
  simp only [prlRr, Bool.and_eq_true, decide_eq_true_eq] at hp
  intro ex s' h
  refine .own 6 0 890 52 7 rfl (.own 6 1 891 48 5 rfl ?_)
  exact lpRq_ok ls op ok a F.noMas hp.1.2 hp.2 (by show 0 + 0 ≤ a; omega) (by omega) ex s' h

theorem evRRd (s : ByteArray) : (runF enRr false Tryz.f5 [vS s]).val =
  bif decide ((500000 : Int) < (↑(ByteArray.size s) : Int)) then some (AV.tup [AV.agg [AV.sl [], AV.sl []], (vI (0 : Int)), (vI (2 : Int))], []) else Option.bind (unenc
  encDvd ([(vS s)], [])) fun (z : ByteArray) => bif decide (ByteArray.size z ≤ (500000 : Nat)) then Option.bind (unenc encRExa ([.ptr 900 0 0, (vS (ByteArray.mk (Array.mk
  [(35 : UInt8), (77 : UInt8), (65 : UInt8), (83 : UInt8), (84 : UInt8), (69 : UInt8), (82 : UInt8)])))], [(901, Blk.mk false 9 1 (List.map eStr (F.lnL z))), (900, Blk.mk
  true 0 0 [[.own 901, (vI (0 : Int)), (vB (F.opA false z))]])])) fun (z : List ByteArray × Nat × Bool × ByteArray) => bif decide (z.snd.fst ≤ (600000 : Nat)) && decide
  (List.length z.fst ≤ (600000 : Nat)) then Option.bind (unenc stRr1 (St.mk [(7, (vB (F.exa z.fst z.snd.snd.fst z.snd.fst z.snd.snd.snd))), (6, .ptr 6 0 0), (5, .ptr 22000 0
  0), (2, .ptr 2 0 0)] [(22001, Blk.mk false 9 1 (List.map eStr z.fst)), (22000, Blk.mk true 0 0 [[.own 22001, (vI (↑(z.snd.fst + F.one (F.exa z.fst z.snd.snd.fst z.snd.fst
  z.snd.snd.snd)) : Int)), (vB z.snd.snd.fst)]]), (6, Blk.mk true 0 0 [[AV.e0, AV.e0]]), (2, Blk.mk true 0 0 [[AV.e0, AV.e0]])])) fun (z : List ByteArray × Bool × Nat ×
  Bool) => bif decide (z.snd.snd.fst ≤ (1 : Nat)) && decide (List.length z.fst ≤ (500000 : Nat)) && F.smE z.fst && true then bif z.snd.snd.snd && (F.rrS z.fst z.snd.fst
  z.snd.snd.fst F.noMas).fst then some (AV.tup [AV.agg [AV.sl (List.map eStrm (F.okM (F.rrS z.fst z.snd.fst z.snd.snd.fst F.noMas).snd.snd).streams), AV.sl (List.map eSnd
  (F.okM (F.rrS z.fst z.snd.fst z.snd.snd.fst F.noMas).snd.snd).sounds)], (vI (0 : Int)), (vI (F.chkM (F.rrS z.fst z.snd.fst z.snd.snd.fst F.noMas).snd.snd))], []) else bif
  z.snd.snd.snd then bif bif z.snd.snd.snd then (↑(List.length (List.map eStr z.fst)) : Int) == (1 : Int) else false then Option.bind (unenc encRMs [AV.agg [AV.sl (List.map
  eStrm (bif z.snd.snd.snd then (F.rrS z.fst z.snd.fst z.snd.snd.fst F.noMas).snd.snd else F.noMas).streams), AV.sl (List.map eSnd (bif z.snd.snd.snd then (F.rrS z.fst
  z.snd.fst z.snd.snd.fst F.noMas).snd.snd else F.noMas).sounds)]]) fun (z : Mas) => some (AV.tup [AV.agg [AV.sl (List.map eStrm (F.okM z).streams), AV.sl (List.map eSnd
  (F.okM z).sounds)], (vI (0 : Int)), (vI (F.chkM z))], []) else some (AV.tup [AV.agg [AV.sl [], AV.sl []], (vI (IntKind.wrap IntKind.i64 ((↑(bif z.snd.snd.snd then (F.rrS
  z.fst z.snd.fst z.snd.snd.fst F.noMas).snd.fst else z.snd.snd.fst) : Int) + (1 : Int)))), (vI (10 : Int))], []) else bif z.snd.snd.snd then none else bif z.snd.snd.snd
  then none else bif z.snd.snd.snd then none else bif z.snd.snd.snd then none else some (AV.tup [AV.agg [AV.sl [], AV.sl []], (vI (IntKind.wrap IntKind.i64 ((↑(bif
  z.snd.snd.snd then (F.rrS z.fst z.snd.fst z.snd.snd.fst F.noMas).snd.fst else z.snd.snd.fst) : Int) + (1 : Int)))), (vI (10 : Int))], []) else none else none else none := by kernel_rfl

def encRRd1 (s : ByteArray) : List AV := [vS s]

def encRRd (a : ByteArray) : List AV := encRRd1 a

theorem encRRd_inj (a a' : ByteArray) (h : encRRd a = encRRd a') : a = a' := by
  simp only [encRRd, encRRd1] at h
  try simp  at h
  grind

theorem unRRd (s : ByteArray) : unenc encRRd ([(vS s)]) = some (s) := unenc_of encRRd_inj (s) rfl

def resRRd1 (s : ByteArray) : AV × Heap := (.tup [.agg (eMas (F.rdMas s).1), vI (F.rdMas s).2.1, vI (F.rdMas s).2.2], [])

def preRRd1 (s : ByteArray) : Bool := true

noncomputable def oRRd : Orc := orc 5 false encRRd (fun a => preRRd1 a) fun a => resRRd1 a

theorem okRRd : OrcOK Tryz.prog noG oRRd := by
  refine mk_ok Tryz.f5 (keep := false) (by kernel_rfl) (by kernel_rfl) enRr_ok mixed (one_loop (x0 := loopN Tryz.f5 0) (by kernel_rfl) (lpo_ok ?_)) (by first | exact fun _ _ => ⟨rfl, rfl⟩ | (intro h; cases h)) ?_
  · rintro ⟨ls, op, a, ok⟩ hp
    exact lpRr_ok ls op a ok hp
  rintro s hpre hok
  show (runF enRr false _ (encRRd1 _)).val = some (resRRd1 _)
  unfold encRRd1 resRRd1
  rw [evRRd]
  have hsz := okA_str (hok _ (List.mem_cons_self ..))
  by_cases hb : 500000 < s.size
  · simp only [unRMor, unRWds, unRSn, unRSt, unRMs, unDvd, unRExa, unRUri, unRMsw, preRMor1, preRWds1, preRSn1, preRSt1, preRMs1, preDvd1, preRExa1, preRUri1, unstRr, prlRr, outRr, etaEnt, etaLst, etaSnd, etaStrm, etaMas, Option.bind_some, List.length_map, unStrs, unInts, unBools, unEnts, unItms, unTrns, cond_true, cond_false, Bool.and_true, Bool.true_and, decide_eq_true (by omega : (500000 : Int) < (s.size : Int)), F.rdMas, decide_eq_true hb]
    rfl
  · have f0 : decide ((500000 : Int) < (s.size : Int)) = false := decide_eq_false (by omega)
    have f1 : decide (s.size ≤ 500000) = true := decide_eq_true (by omega)
    have hl := F.lnL_len s.size s (Nat.le_refl _)
    have f2 : decide ((F.lnL s).length ≤ 600000) = true := decide_eq_true (by omega)
    have f3 : decide ((F.lnL s).length ≤ 500000) = true := decide_eq_true (by omega)
    have f4 : F.smE (F.lnL s) = true := F.lnL_smE s.size s (Nat.le_refl _) (by omega)
    have hq : F.exa (F.lnL s) (F.opA false s) 0 ⟨⟨[35, 77, 65, 83, 84, 69, 82]⟩⟩ = F.exM s := rfl
    have h0i : (vI (0 : Int)) = vI ((0 : Nat) : Int) := rfl
    have hi0 : idx ((0 : Nat) : Int) = some 0 := rfl
    simp only [unRMor, unRWds, unRSn, unRSt, unRMs, unDvd, unRExa, unRUri, unRMsw, preRMor1, preRWds1, preRSn1, preRSt1, preRMs1, preDvd1, preRExa1, preRUri1, unstRr, prlRr, outRr, etaEnt, etaLst, etaSnd, etaStrm, etaMas, Option.bind_some, List.length_map, unStrs, unInts, unBools, unEnts, unItms, unTrns, cond_true, cond_false, Bool.and_true, Bool.true_and, f0, f1, f2, f3, f4, h0i, hi0, hq]
    have hR : F.rdMas s = bif !F.exM s then (F.noMas, 1, 10) else
        bif !(F.rdS (F.cutT s F.nl) 1 F.noMas).1 then (F.noMas, (F.rdS (F.cutT s F.nl) 1 F.noMas).2.1, 10) else
        (F.okM (F.rdS (F.cutT s F.nl) 1 F.noMas).2.2, 0, F.chkM (F.rdS (F.cutT s F.nl) 1 F.noMas).2.2) := by
      unfold F.rdMas F.okM
      rw [F.exM_eq, decide_eq_false hb]
      cases (F.cutF s F.nl && F.seq (F.cutH s F.nl) F.kMas) <;> cases (F.rdS (F.cutT s F.nl) 1 F.noMas).1 <;> cases h : F.chkM (F.rdS (F.cutT s F.nl) 1 F.noMas).2.2 != 0
      all_goals first | rfl | (have h2 : F.chkM (F.rdS (F.cutT s F.nl) 1 F.noMas).2.2 = 0 := by simpa using h)
      all_goals (rw [h2]; rfl)
    rw [hR]
    have hex := F.exM_eq s
    cases he : F.exM s
    · rfl
    rw [he] at hex
    have h0 : s.size ≠ 0 := fun e => by rw [F.cutF_nil e] at hex; cases hex
    obtain ⟨hlt, _, _, hA1⟩ := (F.at0 s).cons h0
    have o1 : 0 + F.one true = 1 := rfl
    by_cases h1 : (F.cutT s F.nl).size = 0
    · obtain ⟨e1, e2⟩ := hA1.nil h1
      have e3 : (((F.lnL s).length : Int) == 1) = true := by rw [e1]; rfl
      rw [F.rdS_end h1]
      rw [o1, e3, F.rrS_no _ e2]
      rfl
    · obtain ⟨k1, k2, k3⟩ := F.rr_rd (F.lnL s) (F.opA false s) (F.cutT s F.nl).size (F.cutT s F.nl) 1 F.noMas (Nat.le_refl _) h1 hA1
      have hlt1 := (hA1.cons h1).1
      have hle := F.rrS_le (F.lnL s) (F.opA false s) (F.lnL s).length 1 F.noMas (by omega) hlt
      have e3 : (((F.lnL s).length : Int) == 1) = false := by simp; omega
      rw [o1, e3]
      generalize F.rrS (F.lnL s) (F.opA false s) 1 F.noMas = P at *
      generalize F.rdS (F.cutT s F.nl) 1 F.noMas = Q at *
      obtain ⟨x1, x2, x3⟩ := P
      obtain ⟨y1, y2, y3⟩ := Q
      simp only at k1 k2 k3 hle
      subst k1
      cases y1
      · have k3 := k3 rfl
        subst k3
        have hw : IntKind.i64.wrap ((x2 : Int) + 1) = (x2 : Int) + 1 := wrap_id (by omega) (by omega)
        simp only [cond_true, cond_false, hw]
        rfl
      · have k2 := k2 rfl
        subst k2
        rfl

end M
end Go.Proofs.YtipngpndgniagaaGreatDoor
