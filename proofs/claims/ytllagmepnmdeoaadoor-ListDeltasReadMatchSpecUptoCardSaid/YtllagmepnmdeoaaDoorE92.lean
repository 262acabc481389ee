/- What is proved here: a list's text is the same for the program and for the reference, on plain data (no statement of the seat). -/
import Derived.Test.YtllagmepnmdeoaaDoorE91
namespace Go.Proofs.YtllagmepnmdeoaaDoor
open Go Go.RowKit
set_option linter.unusedVariables false
set_option linter.unusedSimpArgs false
set_option maxHeartbeats 1000000

theorem F.fault_cap {e e' : Ent} (h : F.capE e = F.capE e') (t : Int) : F.entryFault e t = F.entryFault e' t ∧ (F.entryFault e t = 0 → e = e') := by
  obtain ⟨e1, e2, e3, e4, e5, e6, e7⟩ := F.cap_eq h
  obtain ⟨u, m, b, d, k, g, x⟩ := e
  obtain ⟨u', m', b', d', k', g', x'⟩ := e'
  simp only at e1 e2 e3 e4 e5 e6 e7
  subst e1 e3 e4 e5 e6 e7
  by_cases hin : 1 ≤ m ∧ m ≤ 3600000
  · have : m = m' := by omega
    subst this
    exact ⟨rfl, fun _ => rfl⟩
  · have h1 : F.out m 1 3600000 = true := by
      unfold F.out
      simp only [Bool.or_eq_true, decide_eq_true_eq]
      omega
    have h2 : F.out m' 1 3600000 = true := by
      unfold F.out
      simp only [Bool.or_eq_true, decide_eq_true_eq]
      omega
    unfold F.entryFault
    simp only [h1, h2, if_true]
    refine ⟨trivial, fun h0 => ?_⟩
    split at h0
    · rename_i hu; exact absurd h0 hu
    · omega

theorem F.ents_cap (t : Int) : ∀ (es es' : List Ent), es.map F.capE = es'.map F.capE → F.entsFault t es = F.entsFault t es' ∧ (F.entsFault t es = 0 → es = es')
  | [], [], _ => ⟨rfl, fun _ => rfl⟩
  | [], y :: l, h => by cases h
  | x :: l, [], h => by cases h
  | x :: l, y :: l', h => by
    rw [List.map_cons, List.map_cons] at h
    injection h with h1 h2
    obtain ⟨a1, a2⟩ := F.fault_cap h1 t
    obtain ⟨b1, b2⟩ := F.ents_cap t l l' h2
    unfold F.entsFault at b1 b2 ⊢
    rw [M.ffI, M.ffI, ← a1]
    by_cases h0 : F.entryFault x t = 0
    · rw [if_pos h0, if_pos h0]
      refine ⟨b1, fun h => ?_⟩
      rw [a2 h0, b2 h]
    · rw [if_neg h0, if_neg h0]
      exact ⟨rfl, fun h => absurd h h0⟩

theorem F.check_cap {t f b : Int} {es es' : List Ent} {en : Bool} (h : es.map F.capE = es'.map F.capE) : F.check ⟨t, f, b, es, en⟩ = F.check ⟨t, f, b, es', en⟩ ∧ (F.check ⟨t, f, b, es, en⟩ = 0 → es = es') := by
  have hl : es.length = es'.length := by
    have := congrArg List.length h
    simpa using this
  obtain ⟨h1, h2⟩ := F.ents_cap t es es' h
  unfold F.check
  simp only [hl, h1]
  refine ⟨trivial, fun h0 => ?_⟩
  split at h0
  · omega
  · split at h0
    · omega
    · exact h2 (by rw [h1]; exact h0)

/-- A heading. -/
theorem F.hd_cnt {ls : List ByteArray} {op : Bool} {a : Nat} {s : ByteArray} (hA : F.At ls op a s) (w v : ByteArray) (hw : F.hdW w = v) :
    F.cnt ls op a v 16 = F.hdOk s w ∧ (F.hdOk s w = true → F.cnV ls op a v 16 = F.hdV s w ∧ F.At ls op (a + 1) (F.cutT s F.nl)) := by
  subst hw
  have hm := F.at_mor hA
  unfold F.cnV F.cnt F.hdOk F.hdV F.beh
  rw [hm]
  cases hc : F.cutF s F.nl
  · exact ⟨rfl, fun h => by cases h⟩
  · obtain ⟨hl, hA1⟩ := F.at_line hA hc
    have hv : F.behV ls a (F.hdW w) = (F.cutH s F.nl).extract (F.hdW w).size (F.cutH s F.nl).size := by unfold F.behV; rw [hl]
    rw [hl, hv]
    unfold F.cutP
    cases F.hasPrefix (F.cutH s F.nl) (F.hdW w)
    · exact ⟨rfl, fun h => by cases h⟩
    · refine ⟨rfl, fun h => ⟨?_, hA1⟩⟩
      have h : F.numOk ((F.cutH s F.nl).extract (F.hdW w).size (F.cutH s F.nl).size) 16 = true := h
      rw [h]
      rfl

/-- The entries. -/
theorem F.bd_rd (ls : List ByteArray) (op : Bool) : ∀ (k : Nat) (s : ByteArray) (a : Nat) (key : ByteArray) (es es' : List Ent) (en : Bool), s.size ≤ k → F.At ls op a s → es.map F.capE = es'.map F.capE →
    (F.bdL s a key es en).1 = !(!(F.rdM ls op key es' a en).1 || decide ((F.rdM ls op key es' a en).2.1 < ls.length)) ∧
    ((F.bdL s a key es en).1 = true → (F.bdL s a key es en).2.2.2.1.map F.capE = (F.rdM ls op key es' a en).2.2.1.map F.capE ∧ (F.bdL s a key es en).2.2.2.2 = (F.rdM ls op key es' a en).2.2.2) ∧
    ((F.bdL s a key es en).1 = false → (F.bdL s a key es en).2.2.1 = ((F.rdM ls op key es' a en).2.1 : Int) + 1) := by
  intro k
  induction k with
  | zero =>
    intro s a key es es' en h0 hA he
    have hz : s.size = 0 := by omega
    obtain ⟨h1, h2⟩ := hA.nil hz
    rw [F.bdL_end hz, F.rdM_no (by rw [h2]; rfl)]
    refine ⟨?_, fun _ => ⟨he, rfl⟩, fun h => (by cases h)⟩
    show true = !(false || decide (a < ls.length))
    rw [decide_eq_false (by omega)]
    rfl
  | succ k ih =>
    intro s a key es es' en h0 hA he
    by_cases hz : s.size = 0
    · obtain ⟨h1, h2⟩ := hA.nil hz
      rw [F.bdL_end hz, F.rdM_no (by rw [h2]; rfl)]
      refine ⟨?_, fun _ => ⟨he, rfl⟩, fun h => (by cases h)⟩
      show true = !(false || decide (a < ls.length))
      rw [decide_eq_false (by omega)]
      rfl
    obtain ⟨hlt, hl, hm, hA1⟩ := hA.cons hz
    have hz1 := F.cutT_lt F.nl_one hz
    cases hn : (!F.cutF s F.nl || en)
    case true =>
      have hmm : (F.mor ls op a && !en) = false := by
        rw [hm]
        cases hc : F.cutF s F.nl <;> cases en <;> rw [hc] at hn <;> first | rfl | cases hn
      rw [F.bdL_no hz hn, F.rdM_no hmm]
      refine ⟨?_, fun h => (by cases h), fun _ => rfl⟩
      show false = !(false || decide (a < ls.length))
      rw [decide_eq_true hlt]
      rfl
    have hc : F.cutF s F.nl = true ∧ en = false := by
      cases hc : F.cutF s F.nl <;> cases en <;> rw [hc] at hn <;> first | exact ⟨rfl, rfl⟩ | cases hn
    obtain ⟨hc, hen⟩ := hc
    have hmm : (F.mor ls op a && !en) = true := by rw [hm, hc, hen]; rfl
    have hxe : F.exa ls op a F.kEnd = F.seq (F.cutH s F.nl) F.kEnd := by unfold F.exa; rw [hm, hc, hl]; rfl
    cases hq : F.seq (F.cutH s F.nl) F.kEnd
    case true =>
      rw [hq] at hxe
      rw [F.bdL_last hz hn hq, F.rdM_last hmm hxe]
      exact ih (F.cutT s F.nl) (a + 1) key es es' true (by omega) hA1 he
    rw [hq] at hxe
    have hP : F.enL (F.cutT s F.nl) ((a : Int) + 1) (F.noE key) (F.cutH s F.nl) key 0 = F.pt 0 s a (F.noE key) key := by unfold F.pt; rw [hc]; rfl
    have hR := F.LX (ls := ls) (op := op) key _ a s (F.noE key) (F.noE key) (Nat.le_refl _) hA rfl
    have hle := F.enL_le _ (F.cutT s F.nl) ((a : Int) + 1) (F.noE key) (F.cutH s F.nl) key 0 (Nat.le_refl _)
    rw [hP] at hle
    generalize hr : F.pt 0 s a (F.noE key) key = r at *
    generalize hr' : F.s0 key ls op a (F.noE key) = r' at *
    cases ho : r'.1
    · have ho' : r.1 = false := by rw [hR.ok, ho]
      rw [F.bdL_bad hz hn hq hP ho', F.rdM_bad hmm hxe hr' ho]
      refine ⟨rfl, fun h => (by cases h), fun _ => hR.bad ho⟩
    · have ho' : r.1 = true := by rw [hR.ok, ho]
      obtain ⟨g1, g2, g3⟩ := hR.good ho
      rw [F.bdL_go hz hn hq hP ho', F.rdM_go hmm hxe hr' ho, g1]
      have hk := (F.cap_eq g3).2.2.2.2.1
      rw [hk]
      exact ih r.2.1 r'.2.1 r'.2.2.key (es ++ [r.2.2.2]) (es' ++ [r'.2.2]) en (by omega) g2 (by rw [List.map_append, List.map_append, he, List.map_singleton, List.map_singleton, g3])

theorem F.at_0 (s : ByteArray) : F.At (F.lnL s) (F.opA false s) 0 s := ⟨rfl, Nat.zero_le _, fun _ => rfl⟩

theorem F.rrT_bad {s : ByteArray} {sk : Bool} {a : Nat} (h : F.hR (F.lnL s) (F.opA false s) 0 sk = (false, a)) : F.rrT s sk = bif decide (500000 < s.size) then (F.noL, 0, 0, 2) else (F.noL, 0, (a : Int) + 1, 10) := by
  unfold F.rrT F.rrE
  rw [h]
  rfl

theorem F.rrT_ok {s : ByteArray} {sk : Bool} {a : Nat} (h : F.hR (F.lnL s) (F.opA false s) 0 sk = (true, a)) {R : Bool × Nat × List Ent × Bool} (hR : F.rdM (F.lnL s) (F.opA false s) ⟨⟨[]⟩⟩ [] a false = R)
    {n0 n1 n2 n3 : Int} (h0 : (F.hdN (F.lnL s) (F.opA false s) 1 sk).getD 0 0 = n0) (h1 : (F.hdN (F.lnL s) (F.opA false s) 1 sk).getD 1 0 = n1) (h2 : (F.hdN (F.lnL s) (F.opA false s) 1 sk).getD 2 0 = n2) (h3 : (F.hdN (F.lnL s) (F.opA false s) 1 sk).getD 3 0 = n3) :
    F.rrT s sk = bif decide (500000 < s.size) then (F.noL, 0, 0, 2) else bif !R.1 || decide (R.2.1 < (F.lnL s).length) then (F.noL, 0, (R.2.1 : Int) + 1, 10) else
      bif F.check ⟨n0, n1, n2, R.2.2.1, R.2.2.2⟩ != 0 then (F.noL, 0, 0, F.check ⟨n0, n1, n2, R.2.2.1, R.2.2.2⟩) else (⟨n0, n1, n2, R.2.2.1, R.2.2.2⟩, n3, 0, 0) := by
  subst h0 h1 h2 h3 hR
  unfold F.rrT F.rrG F.rrE F.hV
  rw [h]
  rfl

theorem F.hR_no {ls : List ByteArray} {op : Bool} {sk : Bool} (h : F.exa ls op 0 F.kLst = false) : F.hR ls op 0 sk = (false, 0) := by unfold F.hR; rw [h]; rfl

theorem F.hR_go {ls : List ByteArray} {op : Bool} {sk : Bool} (h : F.exa ls op 0 F.kLst = true) : F.hR ls op 0 sk = F.hdR ls op 1 sk := by unfold F.hR; rw [h]; rfl

theorem F.not_f {x : Bool} (h : false = !x) : x = true := by cases x; cases h; rfl

theorem F.not_t {x : Bool} (h : true = !x) : x = false := by cases x; rfl; cases h

/-- What both say of the entries. -/
theorem F.fin_eq {t f b : Int} {P : Bool × ByteArray × Int × List Ent × Bool} {Q : Bool × Nat × List Ent × Bool} {len : Nat} (h1 : P.1 = !(!Q.1 || decide (Q.2.1 < len))) (h2 : P.1 = true → P.2.2.2.1.map F.capE = Q.2.2.1.map F.capE ∧ P.2.2.2.2 = Q.2.2.2) (h3 : P.1 = false → P.2.2.1 = (Q.2.1 : Int) + 1) :
    (P.1 = false ∧ (!Q.1 || decide (Q.2.1 < len)) = true ∧ P.2.2.1 = (Q.2.1 : Int) + 1) ∨
    (P.1 = true ∧ (!Q.1 || decide (Q.2.1 < len)) = false ∧ F.check ⟨t, f, b, P.2.2.2.1, P.2.2.2.2⟩ = F.check ⟨t, f, b, Q.2.2.1, Q.2.2.2⟩ ∧ (F.check ⟨t, f, b, P.2.2.2.1, P.2.2.2.2⟩ = 0 → (⟨t, f, b, P.2.2.2.1, P.2.2.2.2⟩ : Lst) = ⟨t, f, b, Q.2.2.1, Q.2.2.2⟩)) := by
  cases hp : P.1
  · left
    rw [hp] at h1
    exact ⟨rfl, F.not_f h1, h3 hp⟩
  · right
    rw [hp] at h1
    obtain ⟨g1, g2⟩ := h2 hp
    obtain ⟨c1, c2⟩ := F.check_cap (t := t) (f := f) (b := b) (en := P.2.2.2.2) g1
    refine ⟨rfl, F.not_t h1, by rw [c1, g2], fun h => ?_⟩
    rw [c2 h, g2]

/-- The program's and the reference's Read are the same. -/
theorem F.rd_rr (s : ByteArray) : (F.rdT s).1 = (F.rrT s false).1 ∧ (F.rdT s).2.1 = (F.rrT s false).2.2.1 ∧ (F.rdT s).2.2 = (F.rrT s false).2.2.2 := by
  have hA := F.at_0 s
  have hx : F.exa (F.lnL s) (F.opA false s) 0 F.kLst = (F.cutF s F.nl && F.seq (F.cutH s F.nl) F.kLst) := by
    unfold F.exa
    rw [F.at_mor hA]
    cases hc : F.cutF s F.nl
    · rfl
    · rw [(F.at_line hA hc).1]
  cases hq : (F.cutF s F.nl && F.seq (F.cutH s F.nl) F.kLst)
  · rw [F.rrT_bad (F.hR_no (by rw [hx, hq]))]
    unfold F.rdT
    rw [hq]
    cases decide (500000 < s.size) <;> exact ⟨rfl, rfl, rfl⟩
  have hc : F.cutF s F.nl = true := by rw [Bool.and_eq_true] at hq; exact hq.1
  have hA1 := (F.at_line hA hc).2
  have hgo := F.hR_go (sk := false) (hx.trans hq)
  obtain ⟨t1, t2⟩ := F.hd_cnt hA1 F.wTg F.vTg (F.bsx (by unfold F.hdW; rw [F.bs_app]; rfl))
  cases h1 : F.hdOk (F.cutT s F.nl) F.wTg
  · rw [F.rrT_bad (a := 1) (by rw [hgo]; unfold F.hdR; rw [t1, h1]; rfl)]
    unfold F.rdT
    rw [hq, h1]
    cases decide (500000 < s.size) <;> exact ⟨rfl, rfl, rfl⟩
  obtain ⟨v1, hA2⟩ := t2 h1
  obtain ⟨u1, u2⟩ := F.hd_cnt hA2 F.wFi F.vFi (F.bsx (by unfold F.hdW; rw [F.bs_app]; rfl))
  have d1 : F.dr 1 (F.cutT s F.nl) = F.cutT (F.cutT s F.nl) F.nl := rfl
  have d2 : F.dr 2 (F.cutT s F.nl) = F.cutT (F.cutT (F.cutT s F.nl) F.nl) F.nl := rfl
  cases h2 : F.hdOk (F.cutT (F.cutT s F.nl) F.nl) F.wFi
  · rw [F.rrT_bad (a := 2) (by rw [hgo]; unfold F.hdR; rw [t1, h1, u1, h2]; rfl)]
    unfold F.rdT
    rw [hq, h1, d1, h2]
    cases decide (500000 < s.size) <;> exact ⟨rfl, rfl, rfl⟩
  obtain ⟨v2, hA3⟩ := u2 h2
  obtain ⟨w1, w2⟩ := F.hd_cnt hA3 F.wBr F.vBr (F.bsx (by unfold F.hdW; rw [F.bs_app]; rfl))
  cases h3 : F.hdOk (F.cutT (F.cutT (F.cutT s F.nl) F.nl) F.nl) F.wBr
  · rw [F.rrT_bad (a := 3) (by rw [hgo]; unfold F.hdR; rw [t1, h1, u1, h2, w1, h3]; rfl)]
    unfold F.rdT
    rw [hq, h1, d1, h2, d2, h3]
    cases decide (500000 < s.size) <;> exact ⟨rfl, rfl, rfl⟩
  obtain ⟨v3, hA4⟩ := w2 h3
  obtain ⟨b1, b2, b3⟩ := F.bd_rd (F.lnL s) (F.opA false s) _ _ (0 + 1 + 1 + 1 + 1) ⟨⟨[]⟩⟩ [] [] false (Nat.le_refl _) hA4 rfl
  have hP : F.bdL (F.cutT (F.cutT (F.cutT (F.cutT s F.nl) F.nl) F.nl) F.nl) ((0 + 1 + 1 + 1 + 1 : Nat) : Int) ⟨⟨[]⟩⟩ [] false = F.rdB (F.cutT s F.nl) 1 := rfl
  rw [hP] at b1 b2 b3
  generalize hQ : F.rdM (F.lnL s) (F.opA false s) ⟨⟨[]⟩⟩ [] (0 + 1 + 1 + 1 + 1) false = Q at b1 b2 b3
  rw [F.rrT_ok (sk := false) (a := 4) (by rw [hgo]; unfold F.hdR; rw [t1, h1, u1, h2, w1, h3]; rfl) hQ v1 v2 v3 rfl]
  have hfin := F.fin_eq (t := F.hdV (F.cutT s F.nl) F.wTg) (f := F.hdV (F.cutT (F.cutT s F.nl) F.nl) F.wFi) (b := F.hdV (F.cutT (F.cutT (F.cutT s F.nl) F.nl) F.nl) F.wBr) b1 b2 b3
  unfold F.rdT F.rdG
  rw [hq, h1, d1, h2, d2, h3]
  generalize F.rdB (F.cutT s F.nl) 1 = P at hfin
  clear b1 b2 b3 hP hQ
  cases decide (500000 < s.size)
  rotate_left
  · exact ⟨rfl, rfl, rfl⟩
  rcases hfin with ⟨f1, f2, f3⟩ | ⟨f1, f2, f3, f4⟩
  · rw [f1, f2]
    exact ⟨rfl, f3, rfl⟩
  · rw [f1, f2]
    generalize F.hdV (F.cutT s F.nl) F.wTg = T at *
    generalize F.hdV (F.cutT (F.cutT s F.nl) F.nl) F.wFi = Fi at *
    generalize F.hdV (F.cutT (F.cutT (F.cutT s F.nl) F.nl) F.nl) F.wBr = B at *
    rw [← f3]
    by_cases h0 : F.check ⟨T, Fi, B, P.2.2.2.1, P.2.2.2.2⟩ = 0
    · rw [← f4 h0, h0]
      exact ⟨rfl, rfl, rfl⟩
    · have hn : (F.check ⟨T, Fi, B, P.2.2.2.1, P.2.2.2.2⟩ != 0) = true := by simp [h0]
      rw [hn]
      exact ⟨rfl, rfl, rfl⟩

end Go.Proofs.YtllagmepnmdeoaaDoor
