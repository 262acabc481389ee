/- What is proved here: what the reference's read returns (no statement of the seat). -/
import Derived.Test.YtllagmepnmdeoaaDoorE89
namespace Go.Proofs.YtllagmepnmdeoaaDoor
open Go Go.RowKit
set_option linter.unusedVariables false
set_option linter.unusedSimpArgs false
set_option maxHeartbeats 1000000

theorem F.mor_lt {ls : List ByteArray} {op : Bool} {a : Nat} (h : F.mor ls op a = true) : a < ls.length := by
  unfold F.mor at h
  simp only [Bool.and_eq_true, decide_eq_true_eq] at h
  exact h.1

theorem F.s6_b {ls : List ByteArray} {op : Bool} {a : Nat} {e : Ent} (h : a ≤ ls.length) : (F.s6 ls op a e).2.1 ≤ ls.length ∧ a ≤ (F.s6 ls op a e).2.1 ∧ ((F.s6 ls op a e).1 = true → a < (F.s6 ls op a e).2.1) := by
  unfold F.s6
  cases hr : F.ruri ls op a
  · exact ⟨h, Nat.le_refl _, fun e => by cases e⟩
  · have hm : F.mor ls op a = true := by unfold F.ruri at hr; rw [Bool.and_eq_true] at hr; exact hr.1
    exact ⟨F.mor_lt hm, Nat.le_succ _, fun _ => Nat.lt_succ_self _⟩

theorem F.s5_b {ls : List ByteArray} {op : Bool} {a : Nat} {e : Ent} (h : a ≤ ls.length) : (F.s5 ls op a e).2.1 ≤ ls.length ∧ a ≤ (F.s5 ls op a e).2.1 ∧ ((F.s5 ls op a e).1 = true → a < (F.s5 ls op a e).2.1) := by
  unfold F.s5
  cases hr : F.rtm ls op a
  · exact ⟨h, Nat.le_refl _, fun e => by cases e⟩
  · have hb : F.beh ls op a F.kTimS = true := by unfold F.rtm at hr; rw [Bool.and_eq_true] at hr; exact hr.1
    have hlt := (F.beh_lt hb).1
    obtain ⟨i1, i2, i3⟩ := F.s6_b (op := op) (e := { e with milli := F.rmV (F.behV ls a F.kTimS) }) (show a + 1 ≤ ls.length from hlt)
    exact ⟨i1, Nat.le_trans (Nat.le_succ _) i2, fun _ => i2⟩

theorem F.s4_b {ls : List ByteArray} {op : Bool} {a : Nat} {e : Ent} (h : a ≤ ls.length) : (F.s4 ls op a e).2.1 ≤ ls.length ∧ a ≤ (F.s4 ls op a e).2.1 ∧ ((F.s4 ls op a e).1 = true → a < (F.s4 ls op a e).2.1) := by
  unfold F.s4
  cases hr : F.exa ls op a F.kGap
  · exact F.s5_b h
  · have hm : F.mor ls op a = true := by unfold F.exa at hr; rw [Bool.and_eq_true] at hr; exact hr.1
    obtain ⟨i1, i2, i3⟩ := F.s5_b (op := op) (e := { e with gap := true }) (show a + 1 ≤ ls.length from F.mor_lt hm)
    exact ⟨i1, Nat.le_trans (Nat.le_succ _) i2, fun _ => i2⟩

theorem F.s3_b {key : ByteArray} {ls : List ByteArray} {op : Bool} {a : Nat} {e : Ent} (h : a ≤ ls.length) : (F.s3 key ls op a e).2.1 ≤ ls.length ∧ a ≤ (F.s3 key ls op a e).2.1 ∧ ((F.s3 key ls op a e).1 = true → a < (F.s3 key ls op a e).2.1) := by
  unfold F.s3
  cases hr : F.beh ls op a F.kKeyS
  · exact F.s4_b h
  · have hlt := (F.beh_lt hr).1
    cases F.keyB (F.behV ls a F.kKeyS) key
    · exact ⟨h, Nat.le_refl _, fun e => by cases e⟩
    · obtain ⟨i1, i2, i3⟩ := F.s4_b (op := op) (e := { e with key := F.undash (F.behV ls a F.kKeyS) }) (show a + 1 ≤ ls.length from hlt)
      exact ⟨i1, Nat.le_trans (Nat.le_succ _) i2, fun _ => i2⟩

theorem F.s2_b {key : ByteArray} {ls : List ByteArray} {op : Bool} {a : Nat} {e : Ent} (h : a ≤ ls.length) : (F.s2 key ls op a e).2.1 ≤ ls.length ∧ a ≤ (F.s2 key ls op a e).2.1 ∧ ((F.s2 key ls op a e).1 = true → a < (F.s2 key ls op a e).2.1) := by
  unfold F.s2
  cases hr : F.beh ls op a F.kDatS
  · exact F.s3_b h
  · have hlt := (F.beh_lt hr).1
    cases F.dtOk (F.behV ls a F.kDatS)
    · exact ⟨h, Nat.le_refl _, fun e => by cases e⟩
    · obtain ⟨i1, i2, i3⟩ := F.s3_b (key := key) (op := op) (e := { e with date := F.dtV (F.behV ls a F.kDatS) }) (show a + 1 ≤ ls.length from hlt)
      exact ⟨i1, Nat.le_trans (Nat.le_succ _) i2, fun _ => i2⟩

theorem F.s1_b {key : ByteArray} {ls : List ByteArray} {op : Bool} {a : Nat} {e : Ent} (h : a ≤ ls.length) : (F.s1 key ls op a e).2.1 ≤ ls.length ∧ a ≤ (F.s1 key ls op a e).2.1 ∧ ((F.s1 key ls op a e).1 = true → a < (F.s1 key ls op a e).2.1) := by
  unfold F.s1
  cases hr : F.exa ls op a F.kBrk
  · exact F.s2_b h
  · have hm : F.mor ls op a = true := by unfold F.exa at hr; rw [Bool.and_eq_true] at hr; exact hr.1
    obtain ⟨i1, i2, i3⟩ := F.s2_b (key := key) (op := op) (e := { e with brk := true }) (show a + 1 ≤ ls.length from F.mor_lt hm)
    exact ⟨i1, Nat.le_trans (Nat.le_succ _) i2, fun _ => i2⟩

theorem F.s0_b {key : ByteArray} {ls : List ByteArray} {op : Bool} {a : Nat} {e : Ent} (h : a ≤ ls.length) : (F.s0 key ls op a e).2.1 ≤ ls.length ∧ a ≤ (F.s0 key ls op a e).2.1 ∧ ((F.s0 key ls op a e).1 = true → a < (F.s0 key ls op a e).2.1) := by
  unfold F.s0
  have hx := F.xs_len ls op _ a (Nat.le_refl _) h
  obtain ⟨i1, i2, i3⟩ := F.s1_b (key := key) (op := op) (e := { e with extra := e.extra ++ F.xs ls op a }) hx
  exact ⟨i1, by omega, fun h => by have := i3 h; omega⟩

/-- The entries, as the reference takes them: whether all is well, the place, the entries, whether the list is ended. -/
def F.rdM (ls : List ByteArray) (op : Bool) (key : ByteArray) (es : List Ent) (a : Nat) (en : Bool) : Bool × Nat × List Ent × Bool :=
  if hm : (F.mor ls op a && !en) = true then
    if F.exa ls op a F.kEnd = true then F.rdM ls op key es (a + 1) true else
    if h : (F.s0 key ls op a (F.noE key)).1 = true then F.rdM ls op (F.s0 key ls op a (F.noE key)).2.2.key (es ++ [(F.s0 key ls op a (F.noE key)).2.2]) (F.s0 key ls op a (F.noE key)).2.1 en
    else (false, (F.s0 key ls op a (F.noE key)).2.1, es ++ [(F.s0 key ls op a (F.noE key)).2.2], en)
  else (true, a, es, en)
termination_by ls.length - a
decreasing_by
  · rw [Bool.and_eq_true] at hm
    have := F.mor_lt hm.1
    omega
  · rw [Bool.and_eq_true] at hm
    have h1 := F.mor_lt hm.1
    have h2 := (F.s0_b (key := key) (op := op) (e := F.noE key) (Nat.le_of_lt h1)).2.2 h
    omega

theorem F.rdM_no {ls : List ByteArray} {op : Bool} {key : ByteArray} {es : List Ent} {a : Nat} {en : Bool} (h : (F.mor ls op a && !en) = false) : F.rdM ls op key es a en = (true, a, es, en) := by
  rw [F.rdM, dif_neg (by rw [h]; decide)]

theorem F.rdM_last {ls : List ByteArray} {op : Bool} {key : ByteArray} {es : List Ent} {a : Nat} {en : Bool} (h : (F.mor ls op a && !en) = true) (h1 : F.exa ls op a F.kEnd = true) : F.rdM ls op key es a en = F.rdM ls op key es (a + 1) true := by
  rw [F.rdM, dif_pos h, if_pos h1]

theorem F.rdM_go {ls : List ByteArray} {op : Bool} {key : ByteArray} {es : List Ent} {a : Nat} {en : Bool} (h : (F.mor ls op a && !en) = true) (h1 : F.exa ls op a F.kEnd = false) {r : Bool × Nat × Ent} (hr : F.s0 key ls op a (F.noE key) = r) (h2 : r.1 = true) :
    F.rdM ls op key es a en = F.rdM ls op r.2.2.key (es ++ [r.2.2]) r.2.1 en := by
  subst hr
  rw [F.rdM, dif_pos h, if_neg (by rw [h1]; decide), dif_pos h2]

theorem F.rdM_bad {ls : List ByteArray} {op : Bool} {key : ByteArray} {es : List Ent} {a : Nat} {en : Bool} (h : (F.mor ls op a && !en) = true) (h1 : F.exa ls op a F.kEnd = false) {r : Bool × Nat × Ent} (hr : F.s0 key ls op a (F.noE key) = r) (h2 : r.1 = false) :
    F.rdM ls op key es a en = (false, r.2.1, es ++ [r.2.2], en) := by
  subst hr
  rw [F.rdM, dif_pos h, if_neg (by rw [h1]; decide), dif_neg (by rw [h2]; decide)]

/-- The same, where something may have been wrong before. -/
def F.rdW (ls : List ByteArray) (op : Bool) (ok : Bool) (key : ByteArray) (es : List Ent) (a : Nat) (en : Bool) : Bool × Nat × List Ent × Bool := bif ok then F.rdM ls op key es a en else (false, a, es, en)

/-- The entries behind the headings. -/
def F.rrE (s : ByteArray) (sk : Bool) : Bool × Nat × List Ent × Bool :=
  F.rdW (F.lnL s) (F.opA false s) (F.hR (F.lnL s) (F.opA false s) 0 sk).1 ⟨⟨[]⟩⟩ [] (F.hR (F.lnL s) (F.opA false s) 0 sk).2 false

def F.rrG (s : ByteArray) (sk : Bool) : Lst := ⟨F.hV (F.lnL s) (F.opA false s) 0 sk 0, F.hV (F.lnL s) (F.opA false s) 0 sk 1, F.hV (F.lnL s) (F.opA false s) 0 sk 2, (F.rrE s sk).2.2.1, (F.rrE s sk).2.2.2⟩

/-- A list of a text as the reference reads it, the number of entries left out, the line of a fault, the fault. -/
def F.rrT (s : ByteArray) (sk : Bool) : Lst × Int × Int × Int :=
  bif decide (500000 < s.size) then (F.noL, 0, 0, 2) else
  bif !(F.rrE s sk).1 || decide ((F.rrE s sk).2.1 < (F.lnL s).length) then (F.noL, 0, ((F.rrE s sk).2.1 : Nat) + 1, 10) else
  bif F.check (F.rrG s sk) != 0 then (F.noL, 0, 0, F.check (F.rrG s sk)) else
  (F.rrG s sk, F.hV (F.lnL s) (F.opA false s) 0 sk 3, 0, 0)

theorem F.hdR_b {ls : List ByteArray} {op : Bool} {a : Nat} {sk : Bool} (h : a ≤ ls.length) : (F.hdR ls op a sk).2 ≤ ls.length := by
  unfold F.hdR
  cases h0 : F.cnt ls op a F.vTg 16
  · exact h
  have h0 := F.cnt_lt h0
  cases h1 : F.cnt ls op (a + 1) F.vFi 16
  · exact h0
  have h1 := F.cnt_lt h1
  cases h2 : F.cnt ls op (a + 2) F.vBr 16
  · exact h1
  have h2 := F.cnt_lt h2
  cases sk
  · exact h2
  cases h3 : F.cnt ls op (a + 3) F.vSk 16
  · exact h2
  · exact F.cnt_lt h3

theorem F.hR_b {ls : List ByteArray} {op : Bool} {a : Nat} {sk : Bool} (h : a ≤ ls.length) : (F.hR ls op a sk).2 ≤ ls.length := by
  unfold F.hR
  cases hx : F.exa ls op a F.kLst
  · exact h
  · refine F.hdR_b ?_
    unfold F.exa at hx
    rw [Bool.and_eq_true] at hx
    exact F.mor_lt hx.1

theorem F.rdW_b {ls : List ByteArray} {op : Bool} : ∀ (k : Nat) (ok : Bool) (key : ByteArray) (es : List Ent) (a : Nat) (en : Bool), ls.length - a ≤ k → a ≤ ls.length → (F.rdW ls op ok key es a en).2.1 ≤ ls.length := by
  intro k
  induction k with
  | zero =>
    intro ok key es a en h1 h2
    cases ok
    · exact h2
    · have hm : (F.mor ls op a && !en) = false := by
        cases h : F.mor ls op a
        · rfl
        · have := F.mor_lt h; omega
      show (F.rdM ls op key es a en).2.1 ≤ _
      rw [F.rdM_no hm]
      exact h2
  | succ k ih =>
    intro ok key es a en h1 h2
    cases ok
    · exact h2
    show (F.rdM ls op key es a en).2.1 ≤ _
    cases hm : (F.mor ls op a && !en)
    · rw [F.rdM_no hm]; exact h2
    have hlt : a < ls.length := by
      have h := hm
      rw [Bool.and_eq_true] at h
      exact F.mor_lt h.1
    cases hx : F.exa ls op a F.kEnd
    case true =>
      rw [F.rdM_last hm hx]
      exact ih true key es (a + 1) true (by omega) hlt
    generalize hr : F.s0 key ls op a (F.noE key) = r
    have hb := F.s0_b (key := key) (op := op) (e := F.noE key) h2
    rw [hr] at hb
    obtain ⟨b1, b2, b3⟩ := hb
    cases ho : r.1
    · rw [F.rdM_bad hm hx hr ho]; exact b1
    · rw [F.rdM_go hm hx hr ho]
      have := b3 ho
      exact ih true r.2.2.key (es ++ [r.2.2]) r.2.1 en (by omega) b1

namespace M


def stRr (ls : List ByteArray) (a : Nat) (op : Bool) (ok : Bool) (n3 : Int) (t : Int) (f : Int) (b : Int) : St := ⟨[(12, vS ⟨⟨[]⟩⟩), (11, vB ok), (10, vI n3), (9, .ptr 9 0 0), (8, .ptr 22000 0 0), (4, .ptr 4 0 0)], [(22001, ⟨false, 9, 1, ls.map eStr⟩), (22000, ⟨true, 0, 0, [[.own 22001, vI a, vB op]]⟩), (9, ⟨true, 0, 0, [[vI t, vI f, vI b, .e0, vB false]]⟩), (4, ⟨true, 0, 0, [[vI 0, vI 0, vI 0, .e0, vB false]]⟩)]⟩

def stRr1 (a : (List ByteArray) × Nat × Bool × Bool × Int × Int × Int × Int) : St := stRr a.1 a.2.1 a.2.2.1 a.2.2.2.1 a.2.2.2.2.1 a.2.2.2.2.2.1 a.2.2.2.2.2.2.1 a.2.2.2.2.2.2.2

theorem stRr_inj (a a' : (List ByteArray) × Nat × Bool × Bool × Int × Int × Int × Int) (h : stRr1 a = stRr1 a') : a = a' := by
  simp only [stRr1, stRr] at h
  try simp [strs_inj, ints_inj, ents_inj, eEnt_iff, eLst_iff, eSnds_inj, eStrms_inj] at h
  grind

theorem unstRr (ls : List ByteArray) (a : Nat) (op : Bool) (ok : Bool) (n3 : Int) (t : Int) (f : Int) (b : Int) : unenc stRr1 (St.mk [(12, (vS (ByteArray.mk (Array.mk [])))), (11, (vB ok)), (10, (vI n3)), (9, .ptr 9 0 0), (8, .ptr 22000 0 0), (4, .ptr 4 0 0)] [(22001, Blk.mk false 9 1 (List.map
  eStr ls)), (22000, Blk.mk true 0 0 [[.own 22001, (vI (↑a : Int)), (vB op)]]), (9, Blk.mk true 0 0 [[(vI t), (vI f), (vI b), AV.e0, (vB false)]]), (4, Blk.mk true 0 0 [[(vI
  (0 : Int)), (vI (0 : Int)), (vI (0 : Int)), AV.e0, (vB false)]])]) = some (ls, a, op, ok, n3, t, f, b) := unenc_of stRr_inj (ls, a, op, ok, n3, t, f, b) rfl

def outRr (ls : List ByteArray) (a : Nat) (op : Bool) (ok : Bool) (n3 : Int) (t : Int) (f : Int) (b : Int) : T (Ex × St) := .ret (.exit 0, ⟨[(11, vB (F.rdW ls op ok ⟨⟨[]⟩⟩ [] a false).1), (10, vI n3), (9, .ptr 9 0 0), (8, .ptr 22000 0 0), (4, .ptr 4 0 0)], [(22001, ⟨false, 9, 1, ls.map eStr⟩), (22000, ⟨true, 0, 0, [[.own 22001, vI ((F.rdW ls op ok ⟨⟨[]⟩⟩ [] a false).2.1 : Nat), vB op]]⟩), (890, ⟨false, 46, 7, (F.rdW ls op ok ⟨⟨[]⟩⟩ [] a false).2.2.1.map eEnt⟩), (9, ⟨true, 0, 0, [[vI t, vI f, vI b, .own 890, vB (F.rdW ls op ok ⟨⟨[]⟩⟩ [] a false).2.2.2]]⟩), (4, ⟨true, 0, 0, [[vI 0, vI 0, vI 0, .e0, vB false]]⟩)]⟩)

noncomputable def prlRr (ls : List ByteArray) (a : Nat) (op : Bool) (ok : Bool) (n3 : Int) (t : Int) (f : Int) (b : Int) : Bool := decide (a ≤ ls.length) && F.lsOk ls

noncomputable def lpRr : Nat × (St → T (Ex × St)) := (6, lpo [12, 11, 10, 9, 8, 4] [22001, 22000, 9, 4] stRr1 (fun a => prlRr a.1 a.2.1 a.2.2.1 a.2.2.2.1 a.2.2.2.2.1 a.2.2.2.2.2.1 a.2.2.2.2.2.2.1 a.2.2.2.2.2.2.2) fun a => outRr a.1 a.2.1 a.2.2.1 a.2.2.2.1 a.2.2.2.2.1 a.2.2.2.2.2.1 a.2.2.2.2.2.2.1 a.2.2.2.2.2.2.2)

noncomputable def enRr : Env := envH ty noG lks [oRMor, oRChk] [oDvd, oHea, oRExa, oREn] [890] [lpRr]

theorem enRr_ok : EnvOK Tryd.prog enRr := by
  refine envH_ok lks_ok ty_ok ?_ ?_
  · simp only [List.forall_mem_cons]
    exact ⟨okRMor, okRChk, by simp⟩
  · simp only [List.forall_mem_cons]
    exact ⟨okDvd, okHea, okRExa, okREn, by simp⟩

def stRo (ls : List ByteArray) (op : Bool) (n3 t f b : Int) (ok : Bool) (key : ByteArray) (es : List Ent) (a : Nat) (en : Bool) : St := ⟨[(12, vS key), (11, vB ok), (10, vI n3), (9, .ptr 9 0 0), (8, .ptr 22000 0 0), (4, .ptr 4 0 0)], [(22001, ⟨false, 9, 1, ls.map eStr⟩), (22000, ⟨true, 0, 0, [[.own 22001, vI a, vB op]]⟩), (890, ⟨false, 46, 7, es.map eEnt⟩), (9, ⟨true, 0, 0, [[vI t, vI f, vI b, .own 890, vB en]]⟩), (4, ⟨true, 0, 0, [[vI 0, vI 0, vI 0, .e0, vB false]]⟩)]⟩

theorem evRo (ls : List ByteArray) (op : Bool) (n3 t f b : Int) (ok : Bool) (key : ByteArray) (es : List Ent) (a : Nat) (en : Bool) : ((exec enRr (loopN Tryd.f14 0) (stRo ls op n3 t f b ok key es a en)).bind (lessX ([12, 11, 10, 9, 8, 4], [22001, 22000, 890, 9, 4]) ([11, 10, 9, 8, 4], [22001, 22000, 890, 9, 4]) ([], []))).val =
  bif ok then Option.bind (unenc encRMor [AV.pel [AV.sl (List.map eStr ls), (vI (↑a : Int)), (vB op)] (0 : Nat)]) fun (z : List ByteArray × Nat × Bool) => bif decide
  (z.snd.fst ≤ (600000 : Nat)) && decide (List.length z.fst ≤ (600000 : Nat)) then bif bif F.mor z.fst z.snd.snd z.snd.fst then !en else false then Option.bind (unenc
  encRExa ([.ptr 900 0 0, (vS (ByteArray.mk (Array.mk [(35 : UInt8), (69 : UInt8), (78 : UInt8), (68 : UInt8)])))], [(901, Blk.mk false 9 1 (List.map eStr ls)), (900, Blk.mk
  true 0 0 [[.own 901, (vI (↑a : Int)), (vB op)]])])) fun (z : List ByteArray × Nat × Bool × ByteArray) => bif decide (z.snd.fst ≤ (600000 : Nat)) && decide (List.length
  z.fst ≤ (600000 : Nat)) then bif F.exa z.fst z.snd.snd.fst z.snd.fst z.snd.snd.snd then some (Ex.normal, St.mk [(12, (vS key)), (11, (vB ok)), (10, (vI n3)), (9, .ptr 9 0
  0), (8, .ptr 22000 0 0), (4, .ptr 4 0 0)] [(22001, Blk.mk false 9 1 (List.map eStr z.fst)), (22000, Blk.mk true 0 0 [[.own 22001, (vI (↑(z.snd.fst + F.one (F.exa z.fst
  z.snd.snd.fst z.snd.fst z.snd.snd.snd)) : Int)), (vB z.snd.snd.fst)]]), (890, Blk.mk false 46 7 (List.map eEnt es)), (9, Blk.mk true 0 0 [[(vI t), (vI f), (vI b), .own
  890, (vB true)]]), (4, Blk.mk true 0 0 [[(vI (0 : Int)), (vI (0 : Int)), (vI (0 : Int)), AV.e0, (vB false)]])]) else Option.bind (unenc encREn ([.ptr 900 0 0, (vS key)],
  [(901, Blk.mk false 9 1 (List.map eStr z.fst)), (900, Blk.mk true 0 0 [[.own 901, (vI (↑(z.snd.fst + F.one (F.exa z.fst z.snd.snd.fst z.snd.fst z.snd.snd.snd)) : Int)),
  (vB z.snd.snd.fst)]])])) fun (z : List ByteArray × Nat × Bool × ByteArray) => bif decide (z.snd.fst ≤ List.length z.fst) && F.lsOk z.fst then bif Nat.ble ((List.length
  (List.map eEnt es) + (1 : Nat)) * (88 : Nat)) (140737488355328 : Nat) && true then some (Ex.normal, St.mk [(12, (vS (F.s0 z.snd.snd.snd z.fst z.snd.snd.fst z.snd.fst
  (F.noE z.snd.snd.snd)).snd.snd.key)), (11, (vB (F.s0 z.snd.snd.snd z.fst z.snd.snd.fst z.snd.fst (F.noE z.snd.snd.snd)).fst)), (10, (vI n3)), (9, .ptr 9 0 0), (8, .ptr
  22000 0 0), (4, .ptr 4 0 0)] [(22001, Blk.mk false 9 1 (List.map eStr z.fst)), (22000, Blk.mk true 0 0 [[.own 22001, (vI (↑(F.s0 z.snd.snd.snd z.fst z.snd.snd.fst
  z.snd.fst (F.noE z.snd.snd.snd)).snd.fst : Int)), (vB z.snd.snd.fst)]]), (890, Blk.mk false 46 7 (List.map eEnt es ++ [[(vS (F.s0 z.snd.snd.snd z.fst z.snd.snd.fst
  z.snd.fst (F.noE z.snd.snd.snd)).snd.snd.uri), (vI (F.s0 z.snd.snd.snd z.fst z.snd.snd.fst z.snd.fst (F.noE z.snd.snd.snd)).snd.snd.milli), (vB (F.s0 z.snd.snd.snd z.fst
  z.snd.snd.fst z.snd.fst (F.noE z.snd.snd.snd)).snd.snd.brk), (vI (F.s0 z.snd.snd.snd z.fst z.snd.snd.fst z.snd.fst (F.noE z.snd.snd.snd)).snd.snd.date), (vS (F.s0
  z.snd.snd.snd z.fst z.snd.snd.fst z.snd.fst (F.noE z.snd.snd.snd)).snd.snd.key), (vB (F.s0 z.snd.snd.snd z.fst z.snd.snd.fst z.snd.fst (F.noE z.snd.snd.snd)).snd.snd.gap),
  AV.sl (List.map eStr (F.s0 z.snd.snd.snd z.fst z.snd.snd.fst z.snd.fst (F.noE z.snd.snd.snd)).snd.snd.extra)]])), (9, Blk.mk true 0 0 [[(vI t), (vI f), (vI b), .own 890,
  (vB en)]]), (4, Blk.mk true 0 0 [[(vI (0 : Int)), (vI (0 : Int)), (vI (0 : Int)), AV.e0, (vB false)]])]) else none else none else none else some (Ex.exit (0 : Nat), St.mk
  [(11, (vB ok)), (10, (vI n3)), (9, .ptr 9 0 0), (8, .ptr 22000 0 0), (4, .ptr 4 0 0)] [(22001, Blk.mk false 9 1 (List.map eStr ls)), (22000, Blk.mk true 0 0 [[.own 22001,
  (vI (↑a : Int)), (vB op)]]), (890, Blk.mk false 46 7 (List.map eEnt es)), (9, Blk.mk true 0 0 [[(vI t), (vI f), (vI b), .own 890, (vB en)]]), (4, Blk.mk true 0 0 [[(vI (0
  : Int)), (vI (0 : Int)), (vI (0 : Int)), AV.e0, (vB false)]])]) else none else some (Ex.exit (0 : Nat), St.mk [(11, (vB ok)), (10, (vI n3)), (9, .ptr 9 0 0), (8, .ptr
  22000 0 0), (4, .ptr 4 0 0)] [(22001, Blk.mk false 9 1 (List.map eStr ls)), (22000, Blk.mk true 0 0 [[.own 22001, (vI (↑a : Int)), (vB op)]]), (890, Blk.mk false 46 7
  (List.map eEnt es)), (9, Blk.mk true 0 0 [[(vI t), (vI f), (vI b), .own 890, (vB en)]]), (4, Blk.mk true 0 0 [[(vI (0 : Int)), (vI (0 : Int)), (vI (0 : Int)), AV.e0, (vB
  false)]])]) := (execR_bind _ _ _).symm.trans (by kernel_rfl)

def exRo (ls : List ByteArray) (op : Bool) (n3 t f b : Int) (r : Bool × Nat × List Ent × Bool) : Ex × St := (.exit 0, ⟨[(11, vB r.1), (10, vI n3), (9, .ptr 9 0 0), (8, .ptr 22000 0 0), (4, .ptr 4 0 0)], [(22001, ⟨false, 9, 1, ls.map eStr⟩), (22000, ⟨true, 0, 0, [[.own 22001, vI (r.2.1 : Nat), vB op]]⟩), (890, ⟨false, 46, 7, r.2.2.1.map eEnt⟩), (9, ⟨true, 0, 0, [[vI t, vI f, vI b, .own 890, vB r.2.2.2]]⟩), (4, ⟨true, 0, 0, [[vI 0, vI 0, vI 0, .e0, vB false]]⟩)]⟩)

theorem lpRo_ok (ls : List ByteArray) (op : Bool) (n3 t f b : Int) (hls : F.lsOk ls = true) (ok : Bool) (key : ByteArray) (es : List Ent) (a : Nat) (en : Bool) (h1 : a ≤ ls.length) (h2 : es.length ≤ a) :
    ∀ ex s', (T.ret (exRo ls op n3 t f b (F.rdW ls op ok key es a en))).val = some (ex, s') → LoopOK enRr (loopN Tryd.f14 0) (stRo ls op n3 t f b ok key es a en) ex s' := by
  have hl := F.lsOk_len hls
  refine loop_gen (st := fun p : Bool × ByteArray × List Ent × Nat × Bool => stRo ls op n3 t f b p.1 p.2.1 p.2.2.1 p.2.2.2.1 p.2.2.2.2) (out := fun p => T.ret (exRo ls op n3 t f b (F.rdW ls op p.1 p.2.1 p.2.2.1 p.2.2.2.1 p.2.2.2.2))) (I := fun p => p.2.2.2.1 ≤ ls.length ∧ (p.1 = true → p.2.2.1.length ≤ p.2.2.2.1)) (n := ([12, 11, 10, 9, 8, 4], [22001, 22000, 890, 9, 4])) (e := ([11, 10, 9, 8, 4], [22001, 22000, 890, 9, 4])) (r := ([], [])) (fun p => 2 * (ls.length - p.2.2.2.1) + F.one p.1) ?_ (ok, key, es, a, en) ⟨h1, fun _ => h2⟩
  clear h1 h2
  rintro ⟨ok, key, es, a, en⟩ ⟨h1, h2⟩
  simp only at h1 h2
  have p1 : decide (a ≤ 600000) = true := decide_eq_true (by omega)
  have p2 : decide (ls.length ≤ 600000) = true := decide_eq_true (by omega)
  have p3 : decide (a ≤ ls.length) = true := decide_eq_true h1
  have qE : (⟨⟨[35, 69, 78, 68]⟩⟩ : ByteArray) = F.kEnd := rfl
  cases ok
  · left
    refine ⟨exRo ls op n3 t f b (false, a, es, en), ?_, rfl, by simp [exRo], rfl⟩
    show ((exec enRr (loopN Tryd.f14 0) (stRo ls op n3 t f b false key es a en)).bind _).val = _
    rw [evRo]
    simp only [unRMor, unRChk, unDvd, unHea, unRExa, unREn, unRChkw, preRMor1, preRChk1, preDvd1, preHea1, preRExa1, preREn1, unstRr, prlRr, outRr, etaEnt, etaLst, etaSnd, etaStrm, etaMas, Option.bind_some, List.length_map, unStrs, unInts, unBools, unEnts, unItms, unTrns, cond_true, cond_false, Bool.and_true, Bool.true_and, p1, p2, p3, hls, qE]
    rfl
  have h2 := h2 rfl
  have hcb : ∀ x y : Bool, (bif x then y else false) = (x && y) := by decide
  cases hm : (F.mor ls op a && !en)
  · left
    refine ⟨exRo ls op n3 t f b (true, a, es, en), ?_, ?_, by simp [exRo], rfl⟩
    · show ((exec enRr (loopN Tryd.f14 0) (stRo ls op n3 t f b true key es a en)).bind _).val = _
      rw [evRo]
      simp only [unRMor, unRChk, unDvd, unHea, unRExa, unREn, unRChkw, preRMor1, preRChk1, preDvd1, preHea1, preRExa1, preREn1, unstRr, prlRr, outRr, etaEnt, etaLst, etaSnd, etaStrm, etaMas, Option.bind_some, List.length_map, unStrs, unInts, unBools, unEnts, unItms, unTrns, cond_true, cond_false, Bool.and_true, Bool.true_and, p1, p2, p3, hls, qE, hcb, hm]
      rfl
    · simp only [F.rdW, cond_true, F.rdM_no hm]
      rfl
  have hlt : a < ls.length := by
    have h := hm
    rw [Bool.and_eq_true] at h
    exact F.mor_lt h.1
  right
  cases hx : F.exa ls op a F.kEnd
  case true =>
    refine ⟨(true, key, es, a + 1, true), ?_, rfl, ⟨hlt, fun _ => by simp only; omega⟩, by simp only; omega, ?_⟩
    · show ((exec enRr (loopN Tryd.f14 0) (stRo ls op n3 t f b true key es a en)).bind _).val = _
      rw [evRo]
      simp only [unRMor, unRChk, unDvd, unHea, unRExa, unREn, unRChkw, preRMor1, preRChk1, preDvd1, preHea1, preRExa1, preREn1, unstRr, prlRr, outRr, etaEnt, etaLst, etaSnd, etaStrm, etaMas, Option.bind_some, List.length_map, unStrs, unInts, unBools, unEnts, unItms, unTrns, cond_true, cond_false, Bool.and_true, Bool.true_and, p1, p2, p3, hls, qE, hcb, hm, hx, stRo]
      rfl
    · simp only [F.rdW, cond_true, F.rdM_last hm hx]
  generalize hr : F.s0 key ls op a (F.noE key) = r
  have hb := F.s0_b (key := key) (op := op) (e := F.noE key) h1
  rw [hr] at hb
  obtain ⟨b1, b2, b3⟩ := hb
  refine ⟨(r.1, r.2.2.key, es ++ [r.2.2], r.2.1, en), ?_, rfl, ⟨b1, fun h => by have := b3 h; simp only [List.length_append, List.length_singleton]; omega⟩, ?_, ?_⟩
  · show ((exec enRr (loopN Tryd.f14 0) (stRo ls op n3 t f b true key es a en)).bind _).val = _
    rw [evRo]
    simp only [unRMor, unRChk, unDvd, unHea, unRExa, unREn, unRChkw, preRMor1, preRChk1, preDvd1, preHea1, preRExa1, preREn1, unstRr, prlRr, outRr, etaEnt, etaLst, etaSnd, etaStrm, etaMas, Option.bind_some, List.length_map, unStrs, unInts, unBools, unEnts, unItms, unTrns, cond_true, cond_false, Bool.and_true, Bool.true_and, p1, p2, p3, hls, qE, hcb, hm, hx, stRo]
    rw [F.one_f, Nat.add_zero, p3, ble_t (by omega : (es.length + 1) * 88 ≤ 140737488355328), hr, List.map_append]
    rfl
  · simp only
    cases ho : r.1
    · show 2 * (ls.length - r.2.1) + 0 < 2 * (ls.length - a) + 1
      omega
    · have := b3 ho
      show 2 * (ls.length - r.2.1) + 1 < 2 * (ls.length - a) + 1
      omega
  · cases ho : r.1
    · simp only [F.rdW, cond_true, cond_false, F.rdM_bad hm hx hr ho]
    · simp only [F.rdW, cond_true, F.rdM_go hm hx hr ho]

theorem lpRr_ok (ls : List ByteArray) (a : Nat) (op : Bool) (ok : Bool) (n3 : Int) (t : Int) (f : Int) (b : Int) (hp : prlRr ls a op ok n3 t f b = true) : ∀ ex s', (outRr ls a op ok n3 t f b).val = some (ex, s') → LoopOK enRr (loopN Tryd.f14 0) (stRr ls a op ok n3 t f b) ex s' := by
  simp only [prlRr, Bool.and_eq_true, decide_eq_true_eq] at hp
  intro ex s' h
  refine .own 9 3 890 46 7 rfl ?_
  exact lpRo_ok ls op n3 t f b hp.2 ok ⟨⟨[]⟩⟩ [] a false hp.1 (by simp) ex s' h

theorem evRrd (s : ByteArray) (sk : Bool) : (runF enRr false Tryd.f14 [vS s, vB sk]).val =
  bif decide ((500000 : Int) < (↑(ByteArray.size s) : Int)) then some (AV.tup [AV.agg [(vI (0 : Int)), (vI (0 : Int)), (vI (0 : Int)), AV.sl [], (vB false)], (vI (0 : Int)),
  (vI (0 : Int)), (vI (2 : Int))], []) else Option.bind (unenc encDvd ([(vS s)], [])) fun (z : ByteArray) => bif decide (ByteArray.size z ≤ (500000 : Nat)) then Option.bind
  (unenc encHea ([.ptr 900 0 0, (vB sk)], [(901, Blk.mk false 9 1 (List.map eStr (F.lnL z))), (900, Blk.mk true 0 0 [[.own 901, (vI (0 : Int)), (vB (F.opA false z))]])]))
  fun (z : List ByteArray × Nat × Bool × Bool) => bif decide (z.snd.fst ≤ List.length z.fst) && F.lsOk z.fst then Option.bind (unenc stRr1 (St.mk [(12, (vS (ByteArray.mk
  (Array.mk [])))), (11, (vB (F.hR z.fst z.snd.snd.fst z.snd.fst z.snd.snd.snd).fst)), (10, (vI (F.hV z.fst z.snd.snd.fst z.snd.fst z.snd.snd.snd (3 : Nat)))), (9, .ptr 9 0
  0), (8, .ptr 22000 0 0), (4, .ptr 4 0 0)] [(22001, Blk.mk false 9 1 (List.map eStr z.fst)), (22000, Blk.mk true 0 0 [[.own 22001, (vI (↑(F.hR z.fst z.snd.snd.fst z.snd.fst
  z.snd.snd.snd).snd : Int)), (vB z.snd.snd.fst)]]), (9, Blk.mk true 0 0 [[(vI (F.hV z.fst z.snd.snd.fst z.snd.fst z.snd.snd.snd (0 : Nat))), (vI (F.hV z.fst z.snd.snd.fst
  z.snd.fst z.snd.snd.snd (1 : Nat))), (vI (F.hV z.fst z.snd.snd.fst z.snd.fst z.snd.snd.snd (2 : Nat))), AV.e0, (vB false)]]), (4, Blk.mk true 0 0 [[(vI (0 : Int)), (vI (0
  : Int)), (vI (0 : Int)), AV.e0, (vB false)]])])) fun (z : List ByteArray × Nat × Bool × Bool × Int × Int × Int × Int) => bif decide (z.snd.fst ≤ List.length z.fst) &&
  F.lsOk z.fst && true then bif !!(F.rdW z.fst z.snd.snd.fst z.snd.snd.snd.fst (ByteArray.mk (Array.mk [])) [] z.snd.fst false).fst then bif decide ((↑(F.rdW z.fst
  z.snd.snd.fst z.snd.snd.snd.fst (ByteArray.mk (Array.mk [])) [] z.snd.fst false).snd.fst : Int) < (↑(List.length (List.map eStr z.fst)) : Int)) then some (AV.tup [AV.agg
  [(vI (0 : Int)), (vI (0 : Int)), (vI (0 : Int)), AV.sl [], (vB false)], (vI (0 : Int)), (vI (IntKind.wrap IntKind.i64 ((↑(F.rdW z.fst z.snd.snd.fst z.snd.snd.snd.fst
  (ByteArray.mk (Array.mk [])) [] z.snd.fst false).snd.fst : Int) + (1 : Int)))), (vI (10 : Int))], []) else Option.bind (unenc encRChk [AV.agg [(vI
  z.snd.snd.snd.snd.snd.fst), (vI z.snd.snd.snd.snd.snd.snd.fst), (vI z.snd.snd.snd.snd.snd.snd.snd), AV.sl (List.map eEnt (F.rdW z.fst z.snd.snd.fst z.snd.snd.snd.fst
  (ByteArray.mk (Array.mk [])) [] z.snd.fst false).snd.snd.fst), (vB (F.rdW z.fst z.snd.snd.fst z.snd.snd.snd.fst (ByteArray.mk (Array.mk [])) [] z.snd.fst
  false).snd.snd.snd)]]) fun (z_1 : Lst) => bif F.check z_1 != (0 : Int) then some (AV.tup [AV.agg [(vI (0 : Int)), (vI (0 : Int)), (vI (0 : Int)), AV.sl [], (vB false)],
  (vI (0 : Int)), (vI (0 : Int)), (vI (F.check z_1))], []) else some (AV.tup [AV.agg [(vI z.snd.snd.snd.snd.snd.fst), (vI z.snd.snd.snd.snd.snd.snd.fst), (vI
  z.snd.snd.snd.snd.snd.snd.snd), AV.sl (List.map eEnt (F.rdW z.fst z.snd.snd.fst z.snd.snd.snd.fst (ByteArray.mk (Array.mk [])) [] z.snd.fst false).snd.snd.fst), (vB (F.rdW
  z.fst z.snd.snd.fst z.snd.snd.snd.fst (ByteArray.mk (Array.mk [])) [] z.snd.fst false).snd.snd.snd)], (vI z.snd.snd.snd.snd.fst), (vI (0 : Int)), (vI (0 : Int))], []) else
  some (AV.tup [AV.agg [(vI (0 : Int)), (vI (0 : Int)), (vI (0 : Int)), AV.sl [], (vB false)], (vI (0 : Int)), (vI (IntKind.wrap IntKind.i64 ((↑(F.rdW z.fst z.snd.snd.fst
  z.snd.snd.snd.fst (ByteArray.mk (Array.mk [])) [] z.snd.fst false).snd.fst : Int) + (1 : Int)))), (vI (10 : Int))], []) else none else none else none := (runFR_val).symm.trans (by kernel_rfl)

def encRrd1 (s : ByteArray) (sk : Bool) : List AV := [vS s, vB sk]

def encRrd (a : ByteArray × Bool) : List AV := encRrd1 a.1 a.2

theorem encRrd_inj (a a' : ByteArray × Bool) (h : encRrd a = encRrd a') : a = a' := by
  simp only [encRrd, encRrd1] at h
  try simp [strs_inj, ints_inj, ents_inj, eEnt_iff, eLst_iff, eSnds_inj, eStrms_inj] at h
  grind

theorem unRrd (s : ByteArray) (sk : Bool) : unenc encRrd ([(vS s), (vB sk)]) = some (s, sk) := unenc_of encRrd_inj (s, sk) rfl

def resRrd1 (s : ByteArray) (sk : Bool) : AV × Heap := (.tup [.agg (eLst (F.rrT s sk).1), vI (F.rrT s sk).2.1, vI (F.rrT s sk).2.2.1, vI (F.rrT s sk).2.2.2], [])

def preRrd1 (s : ByteArray) (sk : Bool) : Bool := true

noncomputable def oRrd : Orc := orc 14 false encRrd (fun a => preRrd1 a.1 a.2) fun a => resRrd1 a.1 a.2

theorem okRrd : OrcOK Tryd.prog noG oRrd := by
  refine mk_ok Tryd.f14 (keep := false) (by kernel_rfl) (by kernel_rfl) enRr_ok mixed (one_loop (x0 := loopN Tryd.f14 0) (by kernel_rfl) (lpo_ok ?_)) (by first | exact fun _ _ => ⟨rfl, rfl⟩ | (intro h; cases h)) ?_
  · rintro ⟨ls, a, op, ok, n3, t, f, b⟩ hp
    exact lpRr_ok ls a op ok n3 t f b hp
  rintro ⟨s, sk⟩ hpre hok
  show (runF enRr false _ (encRrd1 _ _)).val = some (resRrd1 _ _)
  unfold encRrd1 resRrd1
  rw [evRrd]
  have hsz := okA_str (hok _ (List.mem_cons_self ..))
  simp only [unRMor, unRChk, unDvd, unHea, unRExa, unREn, unRChkw, preRMor1, preRChk1, preDvd1, preHea1, preRExa1, preREn1, unstRr, prlRr, outRr, etaEnt, etaLst, etaSnd, etaStrm, etaMas, Option.bind_some, List.length_map, unStrs, unInts, unBools, unEnts, unItms, unTrns, cond_true, cond_false, Bool.and_true, Bool.true_and, bne]
  clear hok
  have hl := F.lnL_len _ s (Nat.le_refl _)
  have un0 : unenc encHea ([.ptr 900 0 0, vB sk], [(901, ⟨false, 9, 1, (F.lnL s).map eStr⟩), (900, ⟨true, 0, 0, [[.own 901, vI 0, vB (F.opA false s)]]⟩)]) = some (F.lnL s, 0, F.opA false s, sk) := unenc_of encHea_inj (F.lnL s, 0, F.opA false s, sk) rfl
  rw [un0]
  simp only [Option.bind_some]
  have hE : F.rdW (F.lnL s) (F.opA false s) (F.hR (F.lnL s) (F.opA false s) 0 sk).1 ⟨⟨[]⟩⟩ [] (F.hR (F.lnL s) (F.opA false s) 0 sk).2 false = F.rrE s sk := rfl
  rw [hE]
  have hG : (⟨F.hV (F.lnL s) (F.opA false s) 0 sk 0, F.hV (F.lnL s) (F.opA false s) 0 sk 1, F.hV (F.lnL s) (F.opA false s) 0 sk 2, (F.rrE s sk).2.2.1, (F.rrE s sk).2.2.2⟩ : Lst) = F.rrG s sk := rfl
  have hA : eLst (F.rrG s sk) = [vI (F.hV (F.lnL s) (F.opA false s) 0 sk 0), vI (F.hV (F.lnL s) (F.opA false s) 0 sk 1), vI (F.hV (F.lnL s) (F.opA false s) 0 sk 2), .sl (List.map eEnt (F.rrE s sk).2.2.1), vB (F.rrE s sk).2.2.2] := rfl
  rw [hG, ← hA]
  unfold F.rrT
  by_cases hb : 500000 < s.size
  · rw [decide_eq_true hb, decide_eq_true (by omega : (500000 : Int) < (s.size : Int))]
    rfl
  · have hls := F.lsOk_lnL (by omega : s.size ≤ 500000)
    have hR := F.hR_b (ls := F.lnL s) (op := F.opA false s) (a := 0) (sk := sk) (Nat.zero_le _)
    have hW : (F.rrE s sk).2.1 ≤ (F.lnL s).length := F.rdW_b _ _ _ _ _ _ (Nat.le_refl _) hR
    have e1 : decide (((F.rrE s sk).2.1 : Int) < ((F.lnL s).length : Int)) = decide ((F.rrE s sk).2.1 < (F.lnL s).length) := decide_eq_decide.2 (by omega)
    have w1 : IntKind.i64.wrap (((F.rrE s sk).2.1 : Int) + 1) = ((F.rrE s sk).2.1 : Int) + 1 := wrap_id (by omega) (by omega)
    rw [decide_eq_false hb, decide_eq_false (by omega : ¬ (500000 : Int) < (s.size : Int)), decide_eq_true (by omega : s.size ≤ 500000), decide_eq_true (Nat.zero_le (F.lnL s).length), hls, decide_eq_true hR, e1, w1]
    have hn : (F.check (F.rrG s sk) != 0) = !(F.check (F.rrG s sk) == 0) := rfl
    rw [hn]
    cases (F.rrE s sk).1
    · rfl
    cases decide ((F.rrE s sk).2.1 < (F.lnL s).length)
    · cases F.check (F.rrG s sk) == 0 <;> rfl
    · rfl

end M
end Go.Proofs.YtllagmepnmdeoaaDoor
