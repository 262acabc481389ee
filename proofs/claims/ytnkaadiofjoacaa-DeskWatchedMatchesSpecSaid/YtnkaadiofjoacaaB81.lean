/- What is proved here: what Report of the program returns on plain data (no statement of the seat). -/
import Derived.Test.YtnkaadiofjoacaaB79
import Derived.Test.YtnkaadiofjoacaaB80
namespace Go.Proofs.Ytnkaadiofjoacaa
open Go Go.RowKit
set_option linter.unusedVariables false
set_option linter.unusedSimpArgs false
set_option maxHeartbeats 1000000

namespace F

/-- What is told of the sessions so far: how many, how many failed, the waits, played, stalled, bits. -/
abbrev RA : Type := Int × Int × List Int × Int × Int × Int

def repS (q : Int) (w : Span) (a : RA) (own : List Beat) : RA :=
  bif (stays q own).any (meets w) then
    (a.1 + 1, (bif decide ((figM q own).1.wait < 0) then a.2.1 + 1 else a.2.1), (bif decide ((figM q own).1.wait < 0) then a.2.2.1 else a.2.2.1 ++ [(figM q own).1.wait]),
      a.2.2.2.1 + (figM q own).1.played, a.2.2.2.2.1 + (figM q own).1.stalled, a.2.2.2.2.2 + (figM q own).2)
  else a

theorem ofA_pos (b : Beat) (r : List Beat) : 0 < (ofA b.session [] (b :: r)).length := by
  rw [ofA_cons, beq_self_eq_true, cond_true, List.length_cons]; omega

def repL (q : Int) (w : Span) : List Beat → RA → RA
  | [], a => a
  | b :: r, a => repL q w ((b :: r).drop (ofA b.session [] (b :: r)).length) (repS q w a (ofA b.session [] (b :: r)))
termination_by s => s.length
decreasing_by
  have := ofA_pos b r
  rw [List.length_drop, List.length_cons]
  omega

def repEnd (a : RA) : Rep := ⟨a.1, a.2.1, least (srtI a.2.2.1) 500, least (srtI a.2.2.1) 950, ratio a.2.2.2.2.1.toNat (a.2.2.2.2.1 + a.2.2.2.1).toNat, ratio a.2.2.2.2.2.toNat a.2.2.2.1.toNat⟩

def report (l : List Beat) (q : Int) (w : Span) : Rep × Int :=
  bif spanF l q w != 0 then (⟨0, 0, 0, 0, ⟨0, 0⟩, ⟨0, 0⟩⟩, spanF l q w) else (repEnd (repL q w l (0, 0, [], 0, 0, 0)), 0)

theorem ofA_append (x : ByteArray) (A B : List Beat) : ofA x [] (A ++ B) = ofA x [] A ++ ofA x [] B := by
  conv => lhs; unfold ofA
  rw [List.foldl_append]
  exact ofA_app x B _

theorem own_run {x : ByteArray} : ∀ {s : List Beat}, s.Pairwise bef → (∀ y ∈ s, y.session = x ∨ cmp x y.session = -1) →
    ofA x [] s = s.take (ofA x [] s).length ∧ ∀ y ∈ s.drop (ofA x [] s).length, y.session ≠ x
  | [], _, _ => ⟨rfl, fun y hy => by cases hy⟩
  | y :: t, h1, h2 => by
    obtain ⟨h3, h4⟩ := List.pairwise_cons.1 h1
    by_cases hx : y.session = x
    · have e : ofA x [] (y :: t) = y :: ofA x [] t := by rw [ofA_cons, hx, beq_self_eq_true, cond_true]
      obtain ⟨i1, i2⟩ := own_run h4 fun z hz => h2 z (List.mem_cons_of_mem _ hz)
      rw [e, List.length_cons, List.take_succ_cons, List.drop_succ_cons, ← i1]
      exact ⟨rfl, i2⟩
    · have hall : ∀ z ∈ y :: t, z.session ≠ x := fun z hz e => by
        have hxy : cmp x y.session = -1 := (h2 y (List.mem_cons_self ..)).resolve_left hx
        rcases List.mem_cons.1 hz with rfl | hz
        · exact hx e
        · rcases h3 z hz with h5 | h5
          · have := cb_trans hxy h5
            rw [e] at this
            have h0 := cb_refl x.data.toList
            rw [h0] at this; cases this
          · exact hx (h5.1.trans e)
      have e : ofA x [] (y :: t) = [] := ofA_none hall
      rw [e]
      exact ⟨rfl, hall⟩

/-- No session is before and behind a place. -/
def RunAt (l : List Beat) (i : Nat) : Prop := ∀ y ∈ l.take i, ∀ z ∈ l.drop i, y.session ≠ z.session

theorem run_own {l : List Beat} {i : Nat} {b : Beat} {r : List Beat} (hs : l.Pairwise bef) (hr : RunAt l i) (hd : l.drop i = b :: r) :
    ofA b.session [] l = ofA b.session [] (b :: r) ∧ i + (ofA b.session [] (b :: r)).length ≤ l.length ∧ RunAt l (i + (ofA b.session [] (b :: r)).length) := by
  have e : ofA b.session [] l = ofA b.session [] (b :: r) := by
    conv => lhs; rw [← List.take_append_drop i l, ofA_append, hd]
    rw [ofA_none fun y hy => hr y hy b (by rw [hd]; exact List.mem_cons_self ..)]
    rfl
  have hp : (b :: r).Pairwise bef := by rw [← hd]; exact hs.sublist (List.drop_sublist ..)
  obtain ⟨o1, o2⟩ := own_run (x := b.session) hp fun y hy => by
    rcases List.mem_cons.1 hy with rfl | hy
    · exact .inl rfl
    · rcases (List.pairwise_cons.1 hp).1 y hy with h | h
      · exact .inr h
      · exact .inl h.1.symm
  have hl : (ofA b.session [] (b :: r)).length ≤ (b :: r).length := by
    have := ofA_len b.session (b :: r) []
    simpa using this
  have hdl : (l.drop i).length = (b :: r).length := by rw [hd]
  rw [List.length_drop] at hdl
  have hpos : 0 < (b :: r).length := by simp
  refine ⟨e, by omega, fun y hy z hz => ?_⟩
  rw [← List.drop_drop, hd] at hz
  rw [List.take_add, List.mem_append, hd, ← o1] at hy
  rcases hy with hy | hy
  · exact hr y hy z (by rw [hd]; exact List.mem_of_mem_drop hz)
  · rw [(ofA_mem hy).2]; exact (o2 z hz).symm

theorem figs_ok {l : List Beat} {q : Int} (x : ByteArray) (hc : checkB l = 0) (hq1 : 1 ≤ q) (hq2 : q ≤ 1000000) :
    0 ≤ (figM q (ofA x [] l)).1.played ∧ (figM q (ofA x [] l)).1.played ≤ (ofA x [] l).length * 1000000 ∧ 0 ≤ (figM q (ofA x [] l)).1.stalled ∧ (figM q (ofA x [] l)).1.stalled ≤ (ofA x [] l).length * 1000000 ∧
      0 ≤ (figM q (ofA x [] l)).2 ∧ (figM q (ofA x [] l)).2 ≤ (ofA x [] l).length * 1000000000000000 := by
  obtain ⟨hs, hf⟩ := checkB_sorted hc
  have hlen := chk3 hc
  have hol := ofA_len x l []
  simp only [List.length_nil, Nat.zero_add] at hol
  have hok : ∀ s ∈ stays q (ofA x [] l), sOK s := stays_ok (fun b hb => hf b (ofA_mem hb).1) hq1 hq2
  have hsl := stays_len q (ofA x [] l)
  obtain ⟨i1, i2, i3, -⟩ := fig1_ok (t0 (ofA x [] l)) (ofA x [] l) none (figI (ofA x [] l)) (-1) (own_first hs hf) (by omega) (by simp [figI]) (by simp [figI]) (by simp [figI]; omega)
  obtain ⟨t1, t2, t3, t4, t5, t6, t7, t8, t9, t10⟩ := tot_le _ hok
  have e2 := fig2_tot (stays q (ofA x [] l)) (fig1 (t0 (ofA x [] l)) none (figI (ofA x [] l)) (-1) (ofA x [] l)) 0 hok (by omega)
    (by rw [i1]; simp [figI]) (by rw [i1]; simp [figI]; omega) (by rw [i2]; simp [figI]) (by rw [i2]; simp [figI]; omega) (by rw [i3]; simp [figI]) (by rw [i3]; simp [figI]; omega) (by omega) (by omega)
  rw [i1, i2, i3] at e2
  simp only [figI, Int.zero_add] at e2
  simp only [figM, figI, e2]
  have c1 : ((stays q (ofA x [] l)).length : Int) ≤ ((ofA x [] l).length : Int) := by omega
  refine ⟨t1, by omega, t2, by omega, t4, by omega⟩

theorem repL_nil (q : Int) (w : Span) (a : RA) : repL q w [] a = a := by rw [repL]

theorem repL_cons (q : Int) (w : Span) (b : Beat) (r : List Beat) (a : RA) :
    repL q w (b :: r) a = repL q w ((b :: r).drop (ofA b.session [] (b :: r)).length) (repS q w a (ofA b.session [] (b :: r))) := by rw [repL]

/-- How far what is told can have grown. -/
def RAok (i : Nat) (a : RA) : Prop := (0 ≤ a.1 ∧ a.1 ≤ i) ∧ (0 ≤ a.2.1 ∧ a.2.1 ≤ i) ∧ a.2.2.1.length ≤ i ∧ (0 ≤ a.2.2.2.1 ∧ a.2.2.2.1 ≤ i * 1000000) ∧
  (0 ≤ a.2.2.2.2.1 ∧ a.2.2.2.2.1 ≤ i * 1000000) ∧ (0 ≤ a.2.2.2.2.2 ∧ a.2.2.2.2.2 ≤ i * 1000000000000000)

theorem repS_ok {l : List Beat} {q : Int} {w : Span} {x : ByteArray} {i : Nat} {a : RA} (hc : checkB l = 0) (hq1 : 1 ≤ q) (hq2 : q ≤ 1000000) (ha : RAok i a) (h0 : 0 < (ofA x [] l).length) :
    RAok (i + (ofA x [] l).length) (repS q w a (ofA x [] l)) := by
  obtain ⟨f1, f2, f3, f4, f5, f6⟩ := figs_ok x hc hq1 hq2
  obtain ⟨⟨a1, a2⟩, ⟨a3, a4⟩, a5, ⟨a6, a7⟩, ⟨a8, a9⟩, a10, a11⟩ := ha
  unfold repS
  generalize (ofA x [] l).length = m at *
  cases (stays q (ofA x [] l)).any (meets w)
  · refine ⟨⟨a1, ?_⟩, ⟨a3, ?_⟩, ?_, ⟨a6, ?_⟩, ⟨a8, ?_⟩, a10, ?_⟩ <;> simp only [cond_false] <;> omega
  · cases decide ((figM q (ofA x [] l)).1.wait < 0)
    · refine ⟨⟨?_, ?_⟩, ⟨?_, ?_⟩, ?_, ⟨?_, ?_⟩, ⟨?_, ?_⟩, ?_, ?_⟩ <;> simp only [cond_true, cond_false, List.length_append, List.length_cons, List.length_nil] <;> omega
    · refine ⟨⟨?_, ?_⟩, ⟨?_, ?_⟩, ?_, ⟨?_, ?_⟩, ⟨?_, ?_⟩, ?_, ?_⟩ <;> simp only [cond_true] <;> omega

theorem repL_ok {l : List Beat} {q : Int} {w : Span} (hc : checkB l = 0) (hq1 : 1 ≤ q) (hq2 : q ≤ 1000000) : ∀ (n i : Nat) (a : RA), l.length - i ≤ n → i ≤ l.length → RunAt l i → RAok i a → RAok l.length (repL q w (l.drop i) a) := by
  intro n
  induction n with
  | zero =>
    intro i a hn hi _ ha
    have : i = l.length := by omega
    subst this
    rw [List.drop_length, repL_nil]
    exact ha
  | succ n ih =>
    intro i a hn hi hr ha
    by_cases hlt : i < l.length
    · have hd : l.drop i = l[i] :: l.drop (i + 1) := List.drop_eq_getElem_cons hlt
      generalize l[i] = y at hd
      obtain ⟨e1, e2, e3⟩ := run_own (checkB_sorted hc).1 hr hd
      have h0 := ofA_pos y (l.drop (i + 1))
      have hok := repS_ok (w := w) (x := y.session) hc hq1 hq2 ha (by rw [e1]; exact h0)
      rw [e1] at hok
      rw [hd, repL_cons]
      have e4 : (y :: l.drop (i + 1)).drop (ofA y.session [] (y :: l.drop (i + 1))).length = l.drop (i + (ofA y.session [] (y :: l.drop (i + 1))).length) := by rw [← hd, List.drop_drop]
      rw [e4]
      exact ih _ _ (by omega) e2 e3 hok
    · have : i = l.length := by omega
      subst this
      rw [List.drop_length, repL_nil]
      exact ha

theorem runAt_zero (l : List Beat) : RunAt l 0 := fun y hy => by cases hy

theorem raok_zero : RAok 0 (0, 0, [], 0, 0, 0) := by
  refine ⟨⟨?_, ?_⟩, ⟨?_, ?_⟩, ?_, ⟨?_, ?_⟩, ⟨?_, ?_⟩, ?_, ?_⟩ <;> simp

end F

namespace M

def stRp (l : List Beat) (q : Int) (w : Span) (i : Nat) (n1 : Int) (n2 : Int) (ws : List Int) (p : Int) (s : Int) (b : Int) : St := ⟨[(14, vI i), (13, vI b), (12, vI s), (11, vI p), (10, .own 10), (9, .ptr 9 0 0), (6, .ptr 6 0 0), (5, .ptr 5 0 0), (1, vI q), (0, .sl (l.map eBeat))], [(10, ⟨false, 3, 1, ws.map eI⟩), (9, ⟨true, 0, 0, [[vI n1, vI n2, vI 0, vI 0, vI 0, vI 0, vI 0, vI 0]]⟩), (6, ⟨true, 0, 0, [[vI 0, vI 0, vI 0, vI 0, vI 0, vI 0, vI 0, vI 0]]⟩), (5, ⟨true, 0, 0, [eSpan w]⟩)]⟩

def stRp1 (a : (List Beat) × Int × Span × Nat × Int × Int × (List Int) × Int × Int × Int) : St := stRp a.1 a.2.1 a.2.2.1 a.2.2.2.1 a.2.2.2.2.1 a.2.2.2.2.2.1 a.2.2.2.2.2.2.1 a.2.2.2.2.2.2.2.1 a.2.2.2.2.2.2.2.2.1 a.2.2.2.2.2.2.2.2.2

theorem stRp_inj (a a' : (List Beat) × Int × Span × Nat × Int × Int × (List Int) × Int × Int × Int) (h : stRp1 a = stRp1 a') : a = a' := by
  simp only [stRp1, stRp] at h
  try simp [strs_inj, ints_inj, bools_inj, eL_eIs_inj, eBeats_inj, eBeat_iff, eL_eBeats_inj, eSpans_inj, eSpan_iff, eHoles_inj, eHole_iff, eLevels_inj, eLevel_iff, eFigss_inj, eFigs_iff, eRatios_inj, eRatio_iff, eReps_inj, eRep_iff, eStays_inj, eStay_iff] at h
  grind

theorem unstRp (l : List Beat) (q : Int) (w : Span) (i : Nat) (n1 : Int) (n2 : Int) (ws : List Int) (p : Int) (s : Int) (b : Int) : unenc stRp1 (St.mk [(14, (vI (↑i : Int))), (13, (vI b)), (12, (vI s)), (11, (vI p)), (10, .own 10), (9, .ptr 9 0 0), (6, .ptr 6 0 0), (5, .ptr 5 0 0), (1, (vI q)), (0, AV.sl (List.map
  eBeat l))] [(10, Blk.mk false 3 1 (List.map eI ws)), (9, Blk.mk true 0 0 [[(vI n1), (vI n2), (vI (0 : Int)), (vI (0 : Int)), (vI (0 : Int)), (vI (0 : Int)), (vI (0 :
  Int)), (vI (0 : Int))]]), (6, Blk.mk true 0 0 [[(vI (0 : Int)), (vI (0 : Int)), (vI (0 : Int)), (vI (0 : Int)), (vI (0 : Int)), (vI (0 : Int)), (vI (0 : Int)), (vI (0 :
  Int))]]), (5, Blk.mk true 0 0 [[(vI w.fr), (vI w.to)]])]) = some (l, q, w, i, n1, n2, ws, p, s, b) := unenc_of stRp_inj (l, q, w, i, n1, n2, ws, p, s, b) rfl

theorem unstRp0 (l : List Beat) (q : Int) (w : Span)  : unenc stRp1 (St.mk [(14, (vI (0 : Int))), (13, (vI (0 : Int))), (12, (vI (0 : Int))), (11, (vI (0 : Int))), (10, .own 10), (9, .ptr 9 0 0), (6, .ptr 6 0 0), (5, .ptr 5 0 0), (1, (vI
  q)), (0, AV.sl (List.map eBeat l))] [(10, Blk.mk false 3 1 []), (9, Blk.mk true 0 0 [[(vI (0 : Int)), (vI (0 : Int)), (vI (0 : Int)), (vI (0 : Int)), (vI (0 : Int)), (vI
  (0 : Int)), (vI (0 : Int)), (vI (0 : Int))]]), (6, Blk.mk true 0 0 [[(vI (0 : Int)), (vI (0 : Int)), (vI (0 : Int)), (vI (0 : Int)), (vI (0 : Int)), (vI (0 : Int)), (vI (0
  : Int)), (vI (0 : Int))]]), (5, Blk.mk true 0 0 [[(vI w.fr), (vI w.to)]])]) = some (l, q, w, 0, 0, 0, [], 0, 0, 0) := unenc_of stRp_inj (l, q, w, 0, 0, 0, [], 0, 0, 0) rfl

def outRp (l : List Beat) (q : Int) (w : Span) (i : Nat) (n1 : Int) (n2 : Int) (ws : List Int) (p : Int) (s : Int) (b : Int) : T (Ex × St) := .ret (.exit 0, ⟨[(13, vI (F.repL q w (l.drop i) (n1, n2, ws, p, s, b)).2.2.2.2.2), (12, vI (F.repL q w (l.drop i) (n1, n2, ws, p, s, b)).2.2.2.2.1), (11, vI (F.repL q w (l.drop i) (n1, n2, ws, p, s, b)).2.2.2.1), (10, .own 10), (9, .ptr 9 0 0), (6, .ptr 6 0 0)], [(10, ⟨false, 3, 1, (F.repL q w (l.drop i) (n1, n2, ws, p, s, b)).2.2.1.map eI⟩), (9, ⟨true, 0, 0, [[vI (F.repL q w (l.drop i) (n1, n2, ws, p, s, b)).1, vI (F.repL q w (l.drop i) (n1, n2, ws, p, s, b)).2.1, vI 0, vI 0, vI 0, vI 0, vI 0, vI 0]]⟩), (6, ⟨true, 0, 0, [[vI 0, vI 0, vI 0, vI 0, vI 0, vI 0, vI 0, vI 0]]⟩)]⟩)

noncomputable def prlRp (l : List Beat) (q : Int) (w : Span) (i : Nat) (n1 : Int) (n2 : Int) (ws : List Int) (p : Int) (s : Int) (b : Int) : Bool := decide (F.checkB l = 0 ∧ 1 ≤ q ∧ q ≤ 1000000 ∧ i = 0 ∧ n1 = 0 ∧ n2 = 0 ∧ ws = [] ∧ p = 0 ∧ s = 0 ∧ b = 0)

noncomputable def lpRp : Nat × (St → T (Ex × St)) := (8, lpo [14, 13, 12, 11, 10, 9, 6, 5, 1, 0] [10, 9, 6, 5] stRp1 (fun a => prlRp a.1 a.2.1 a.2.2.1 a.2.2.2.1 a.2.2.2.2.1 a.2.2.2.2.2.1 a.2.2.2.2.2.2.1 a.2.2.2.2.2.2.2.1 a.2.2.2.2.2.2.2.2.1 a.2.2.2.2.2.2.2.2.2) fun a => outRp a.1 a.2.1 a.2.2.1 a.2.2.2.1 a.2.2.2.2.1 a.2.2.2.2.2.1 a.2.2.2.2.2.2.1 a.2.2.2.2.2.2.2.1 a.2.2.2.2.2.2.2.2.1 a.2.2.2.2.2.2.2.2.2)

noncomputable def enRp : Env := envH ty noG lks [oSpf, oOfS, oSty, oIstC, oFgs, oLea, oRat] [oSo] [] [lpRp]

theorem enRp_ok : EnvOK Try.prog enRp := by
  refine envH_ok lks_ok ty_ok ?_ ?_
  · simp only [List.forall_mem_cons]
    exact ⟨okSpf, okOfS, okSty, okIstC, okFgs, okLea, okRat, by simp⟩
  · simp only [List.forall_mem_cons]
    exact ⟨okSo, by simp⟩

theorem evRpL (l : List Beat) (q : Int) (w : Span) (i : Nat) (n1 : Int) (n2 : Int) (ws : List Int) (p : Int) (s : Int) (b : Int) : ((exec enRp (loopN Try.f18 0) (stRp l q w i n1 n2 ws p s b)).bind (lessX ([14, 13, 12, 11, 10, 9, 6, 5, 1, 0], [10, 9, 6, 5]) ([13, 12, 11, 10, 9, 6], [10, 9, 6]) ([], []))).val =
  bif decide ((↑i : Int) < (↑(List.length (List.map eBeat l)) : Int)) then Option.bind (unenc (List.map eBeat) (List.map eBeat l)) fun (z : List Beat) => bif decide (i <
  List.length z) then Option.bind (unenc encOfS [AV.sl (List.map eBeat l), (vS (List.getD z i (Beat.mk (ByteArray.mk (Array.mk [])) (0 : Int) (0 : Int) (0 : Int) (0 :
  Int))).session)]) fun (z : List Beat × ByteArray) => bif decide (List.length z.fst ≤ (3000 : Nat)) then Option.bind (unenc encSty [AV.sl (List.map eBeat (F.ofA z.snd []
  z.fst)), (vI q)]) fun (z_1 : List Beat × Int) => bif decide (List.length z_1.fst ≤ (3000 : Nat)) then Option.bind (unenc encIstC [AV.sl (List.map eStay (F.stays z_1.snd
  z_1.fst)), AV.fn (38 : Nat) [AV.pel [(vI w.fr), (vI w.to)] (0 : Nat)]]) fun (z_2 : List Stay × Span) => bif !List.any z_2.fst (F.meets z_2.snd) then some (Ex.normal, St.mk
  [(14, (vI (IntKind.wrap IntKind.i64 ((↑i : Int) + (↑(List.length (List.map eBeat (F.ofA z.snd [] z.fst))) : Int))))), (13, (vI b)), (12, (vI s)), (11, (vI p)), (10, .own
  10), (9, .ptr 9 0 0), (6, .ptr 6 0 0), (5, .ptr 5 0 0), (1, (vI q)), (0, AV.sl (List.map eBeat l))] [(10, Blk.mk false 3 1 (List.map eI ws)), (9, Blk.mk true 0 0 [[(vI
  n1), (vI n2), (vI (0 : Int)), (vI (0 : Int)), (vI (0 : Int)), (vI (0 : Int)), (vI (0 : Int)), (vI (0 : Int))]]), (6, Blk.mk true 0 0 [[(vI (0 : Int)), (vI (0 : Int)), (vI
  (0 : Int)), (vI (0 : Int)), (vI (0 : Int)), (vI (0 : Int)), (vI (0 : Int)), (vI (0 : Int))]]), (5, Blk.mk true 0 0 [[(vI w.fr), (vI w.to)]])]) else Option.bind (unenc
  encFgs [AV.sl (List.map eBeat (F.ofA z.snd [] z.fst)), (vI q)]) fun (z_3 : List Beat × Int) => bif decide (List.length z_3.fst ≤ (3000 : Nat)) && decide ((0 : Nat) <
  List.length z_3.fst) then bif decide ((F.figM z_3.snd z_3.fst).fst.wait < (0 : Int)) then some (Ex.normal, St.mk [(14, (vI (IntKind.wrap IntKind.i64 ((↑i : Int) +
  (↑(List.length (List.map eBeat (F.ofA z.snd [] z.fst))) : Int))))), (13, (vI (IntKind.wrap IntKind.i64 (b + (F.figM z_3.snd z_3.fst).snd)))), (12, (vI (IntKind.wrap
  IntKind.i64 (s + (F.figM z_3.snd z_3.fst).fst.stalled)))), (11, (vI (IntKind.wrap IntKind.i64 (p + (F.figM z_3.snd z_3.fst).fst.played)))), (10, .own 10), (9, .ptr 9 0 0),
  (6, .ptr 6 0 0), (5, .ptr 5 0 0), (1, (vI q)), (0, AV.sl (List.map eBeat l))] [(10, Blk.mk false 3 1 (List.map eI ws)), (9, Blk.mk true 0 0 [[(vI (IntKind.wrap IntKind.i64
  (n1 + (1 : Int)))), (vI (IntKind.wrap IntKind.i64 (n2 + (1 : Int)))), (vI (0 : Int)), (vI (0 : Int)), (vI (0 : Int)), (vI (0 : Int)), (vI (0 : Int)), (vI (0 : Int))]]),
  (6, Blk.mk true 0 0 [[(vI (0 : Int)), (vI (0 : Int)), (vI (0 : Int)), (vI (0 : Int)), (vI (0 : Int)), (vI (0 : Int)), (vI (0 : Int)), (vI (0 : Int))]]), (5, Blk.mk true 0
  0 [[(vI w.fr), (vI w.to)]])]) else bif Nat.ble ((List.length (List.map eI ws) + (1 : Nat)) * (8 : Nat)) (140737488355328 : Nat) && true then some (Ex.normal, St.mk [(14,
  (vI (IntKind.wrap IntKind.i64 ((↑i : Int) + (↑(List.length (List.map eBeat (F.ofA z.snd [] z.fst))) : Int))))), (13, (vI (IntKind.wrap IntKind.i64 (b + (F.figM z_3.snd
  z_3.fst).snd)))), (12, (vI (IntKind.wrap IntKind.i64 (s + (F.figM z_3.snd z_3.fst).fst.stalled)))), (11, (vI (IntKind.wrap IntKind.i64 (p + (F.figM z_3.snd
  z_3.fst).fst.played)))), (10, .own 10), (9, .ptr 9 0 0), (6, .ptr 6 0 0), (5, .ptr 5 0 0), (1, (vI q)), (0, AV.sl (List.map eBeat l))] [(10, Blk.mk false 3 1 (List.map eI
  ws ++ [[(vI (F.figM z_3.snd z_3.fst).fst.wait)]])), (9, Blk.mk true 0 0 [[(vI (IntKind.wrap IntKind.i64 (n1 + (1 : Int)))), (vI n2), (vI (0 : Int)), (vI (0 : Int)), (vI (0
  : Int)), (vI (0 : Int)), (vI (0 : Int)), (vI (0 : Int))]]), (6, Blk.mk true 0 0 [[(vI (0 : Int)), (vI (0 : Int)), (vI (0 : Int)), (vI (0 : Int)), (vI (0 : Int)), (vI (0 :
  Int)), (vI (0 : Int)), (vI (0 : Int))]]), (5, Blk.mk true 0 0 [[(vI w.fr), (vI w.to)]])]) else none else none else none else none else none else some (Ex.exit (0 : Nat),
  St.mk [(13, (vI b)), (12, (vI s)), (11, (vI p)), (10, .own 10), (9, .ptr 9 0 0), (6, .ptr 6 0 0)] [(10, Blk.mk false 3 1 (List.map eI ws)), (9, Blk.mk true 0 0 [[(vI n1),
  (vI n2), (vI (0 : Int)), (vI (0 : Int)), (vI (0 : Int)), (vI (0 : Int)), (vI (0 : Int)), (vI (0 : Int))]]), (6, Blk.mk true 0 0 [[(vI (0 : Int)), (vI (0 : Int)), (vI (0 :
  Int)), (vI (0 : Int)), (vI (0 : Int)), (vI (0 : Int)), (vI (0 : Int)), (vI (0 : Int))]])]) := (execR_bind _ _ _).symm.trans (by kernel_rfl)

theorem lpRp_ok (l : List Beat) (q : Int) (w : Span) (i : Nat) (n1 : Int) (n2 : Int) (ws : List Int) (p : Int) (s : Int) (b : Int) (hp : prlRp l q w i n1 n2 ws p s b = true) : ∀ ex s', (outRp l q w i n1 n2 ws p s b).val = some (ex, s') → LoopOK enRp (loopN Try.f18 0) (stRp l q w i n1 n2 ws p s b) ex s' := by
  simp only [prlRp, Bool.and_eq_true, decide_eq_true_eq] at hp
  obtain ⟨hc, hq1, hq2, rfl, rfl, rfl, rfl, rfl, rfl, rfl⟩ := hp
  have hlen := F.chk3 hc
  have hsr := (F.checkB_sorted hc).1
  refine loop_gen (st := fun t : Nat × F.RA => stRp l q w t.1 t.2.1 t.2.2.1 t.2.2.2.1 t.2.2.2.2.1 t.2.2.2.2.2.1 t.2.2.2.2.2.2) (out := fun t => outRp l q w t.1 t.2.1 t.2.2.1 t.2.2.2.1 t.2.2.2.2.1 t.2.2.2.2.2.1 t.2.2.2.2.2.2) (I := fun t => t.1 ≤ l.length ∧ F.RunAt l t.1 ∧ F.RAok t.1 t.2) (n := ([14, 13, 12, 11, 10, 9, 6, 5, 1, 0], [10, 9, 6, 5])) (e := ([13, 12, 11, 10, 9, 6], [10, 9, 6])) (r := ([], [])) (fun t => l.length - t.1) ?_ (0, (0, 0, [], 0, 0, 0)) ⟨Nat.zero_le _, F.runAt_zero l, F.raok_zero⟩
  rintro ⟨i, n1, n2, ws, p, s, b⟩ ⟨hi, hr, ha⟩
  simp only at hi hr ha
  by_cases hlt : i < l.length
  · right
    obtain ⟨y, hy⟩ := at_lt hlt
    have hd := drop_at hy
    obtain ⟨e1, e2, e3⟩ := F.run_own hsr hr hd
    have h0 := F.ofA_pos y (l.drop (i + 1))
    have hok := F.repS_ok (w := w) (x := y.session) hc hq1 hq2 ha (by rw [e1]; exact h0)
    obtain ⟨f1, f2, f3, f4, f5, f6⟩ := F.figs_ok y.session hc hq1 hq2
    rw [e1] at hok f1 f2 f3 f4 f5 f6
    obtain ⟨⟨a1, a2⟩, ⟨a3, a4⟩, a5, ⟨a6, a7⟩, ⟨a8, a9⟩, a10, a11⟩ := ha
    simp only at a1 a2 a3 a4 a5 a6 a7 a8 a9 a10 a11
    have hstep : F.repL q w (l.drop i) (n1, n2, ws, p, s, b) = F.repL q w (l.drop (i + (F.ofA y.session [] (y :: l.drop (i + 1))).length)) (F.repS q w (n1, n2, ws, p, s, b) (F.ofA y.session [] (y :: l.drop (i + 1)))) := by
      rw [hd, F.repL_cons]
      congr 1
      rw [← hd, List.drop_drop]
    refine ⟨(i + (F.ofA y.session [] (y :: l.drop (i + 1))).length, F.repS q w (n1, n2, ws, p, s, b) (F.ofA y.session [] (y :: l.drop (i + 1)))), ?_, rfl, ⟨e2, e3, hok⟩, by simp only; omega, ?_⟩
    · rw [evRpL]
      clear hstep hok e3
      have hl3 : l.length ≤ 3000 := hlen
      simp only [unSpf, unOfS, unSty, unIstC, unFgs, unLea, unRat, unSo, unSpfw, unIstCw, preSpf1, preOfS1, preSty1, preIstC1, preFgs1, preLea1, preRat1, preSo1, unstRp, unstRp0, prlRp, outRp, etaBeat, etaSpan, etaHole, etaLevel, etaFigs, etaRatio, etaRep, etaStay, Option.bind_some, List.length_map, unStrs, unInts, unBools, uneL_eIs, unBeats, uneL_eBeats, unSpans, unHoles, unLevels, unFigss, unRatios, unReps, unStays, F.lt, F.le, cond_true, cond_false, Bool.and_true, Bool.true_and, dlt, decide_eq_true hlt, getD_at hy, decide_eq_true hl3, e1]
      generalize F.ofA y.session [] (y :: l.drop (i + 1)) = own at e2 h0 f1 f2 f3 f4 f5 f6
      have hol : own.length ≤ 3000 := by omega
      simp only [unSpf, unOfS, unSty, unIstC, unFgs, unLea, unRat, unSo, unSpfw, unIstCw, preSpf1, preOfS1, preSty1, preIstC1, preFgs1, preLea1, preRat1, preSo1, unstRp, unstRp0, prlRp, outRp, etaBeat, etaSpan, etaHole, etaLevel, etaFigs, etaRatio, etaRep, etaStay, Option.bind_some, List.length_map, unStrs, unInts, unBools, uneL_eIs, unBeats, uneL_eBeats, unSpans, unHoles, unLevels, unFigss, unRatios, unReps, unStays, F.lt, F.le, cond_true, cond_false, Bool.and_true, Bool.true_and, decide_eq_true hol, decide_eq_true h0, w_add (show i + own.length ≤ 9223372036854775807 by omega), F.repS]
      cases (F.stays q own).any (F.meets w)
      · simp only [Bool.not_false, cond_true, cond_false, stRp]
        rfl
      · have hbl : Nat.ble ((ws.length + 1) * 8) 140737488355328 = true := ble_t (by omega)
        have w1 : IntKind.i64.wrap (n1 + 1) = n1 + 1 := wrap_id (by omega) (by omega)
        have w2 : IntKind.i64.wrap (n2 + 1) = n2 + 1 := wrap_id (by omega) (by omega)
        have w3 : IntKind.i64.wrap (b + (F.figM q own).2) = b + (F.figM q own).2 := wrap_id (by omega) (by omega)
        have w4 : IntKind.i64.wrap (s + (F.figM q own).1.stalled) = s + (F.figM q own).1.stalled := wrap_id (by omega) (by omega)
        have w5 : IntKind.i64.wrap (p + (F.figM q own).1.played) = p + (F.figM q own).1.played := wrap_id (by omega) (by omega)
        simp only [Bool.not_true, cond_true, cond_false, w1, w2, w3, w4, w5, hbl, appInts', stRp]
        cases decide ((F.figM q own).1.wait < 0) <;> rfl
    · simp only [outRp, hstep]
  · have : i = l.length := by omega
    subst this
    left
    refine ⟨_, ?_, rfl, by simp, rfl⟩
    rw [evRpL]
    simp only [List.length_map, dlt, decide_eq_false hlt, cond_false, List.drop_length, F.repL_nil]

theorem lea_500 (l : List Int) : unenc encLea [.sl (l.map eI), vI 500] = some (l, 500) := unenc_of encLea_inj (l, 500) rfl

theorem lea_950 (l : List Int) : unenc encLea [.sl (l.map eI), vI 950] = some (l, 950) := unenc_of encLea_inj (l, 950) rfl

theorem evRp (l : List Beat) (q : Int) (w : Span) : (runF enRp false Try.f18 [.sl (l.map eBeat), vI q, .agg (eSpan w)]).val =
  Option.bind (unenc encSpf [AV.sl (List.map eBeat l), (vI q), AV.agg [(vI w.fr), (vI w.to)]]) fun (z : List Beat × Int × Span) => bif F.spanF z.fst z.snd.fst z.snd.snd !=
  (0 : Int) then some (AV.tup [AV.agg [(vI (0 : Int)), (vI (0 : Int)), (vI (0 : Int)), (vI (0 : Int)), (vI (0 : Int)), (vI (0 : Int)), (vI (0 : Int)), (vI (0 : Int))], (vI
  (F.spanF z.fst z.snd.fst z.snd.snd))], []) else Option.bind (unenc stRp1 (St.mk [(14, (vI (0 : Int))), (13, (vI (0 : Int))), (12, (vI (0 : Int))), (11, (vI (0 : Int))),
  (10, .own 10), (9, .ptr 9 0 0), (6, .ptr 6 0 0), (5, .ptr 5 0 0), (1, (vI q)), (0, AV.sl (List.map eBeat l))] [(10, Blk.mk false 3 1 []), (9, Blk.mk true 0 0 [[(vI (0 :
  Int)), (vI (0 : Int)), (vI (0 : Int)), (vI (0 : Int)), (vI (0 : Int)), (vI (0 : Int)), (vI (0 : Int)), (vI (0 : Int))]]), (6, Blk.mk true 0 0 [[(vI (0 : Int)), (vI (0 :
  Int)), (vI (0 : Int)), (vI (0 : Int)), (vI (0 : Int)), (vI (0 : Int)), (vI (0 : Int)), (vI (0 : Int))]]), (5, Blk.mk true 0 0 [[(vI w.fr), (vI w.to)]])])) fun (z : List
  Beat × Int × Span × Nat × Int × Int × List Int × Int × Int × Int) => bif decide (F.checkB z.fst = (0 : Int) ∧ (1 : Int) ≤ z.snd.fst ∧ z.snd.fst ≤ (1000000 : Int) ∧
  z.snd.snd.snd.fst = (0 : Nat) ∧ z.snd.snd.snd.snd.fst = (0 : Int) ∧ z.snd.snd.snd.snd.snd.fst = (0 : Int) ∧ z.snd.snd.snd.snd.snd.snd.fst = [] ∧
  z.snd.snd.snd.snd.snd.snd.snd.fst = (0 : Int) ∧ z.snd.snd.snd.snd.snd.snd.snd.snd.fst = (0 : Int) ∧ z.snd.snd.snd.snd.snd.snd.snd.snd.snd = (0 : Int)) && true then
  Option.bind (unenc encSo ([.own 900], [(900, Blk.mk false 3 1 (List.map eI (F.repL z.snd.fst z.snd.snd.fst (List.drop z.snd.snd.snd.fst z.fst) (z.snd.snd.snd.snd.fst,
  z.snd.snd.snd.snd.snd.fst, z.snd.snd.snd.snd.snd.snd.fst, z.snd.snd.snd.snd.snd.snd.snd.fst, z.snd.snd.snd.snd.snd.snd.snd.snd.fst,
  z.snd.snd.snd.snd.snd.snd.snd.snd.snd)).snd.snd.fst))])) fun (z_1 : List Int) => bif decide (List.length z_1 ≤ (100000 : Nat)) then Option.bind (unenc encLea [AV.sl
  (List.map eI (F.srtI z_1)), (vI (500 : Int))]) fun (z_2 : List Int × Nat) => bif decide (List.length z_2.fst ≤ (3000 : Nat) ∧ (1 : Nat) ≤ z_2.snd ∧ z_2.snd ≤ (1000 : Nat))
  then Option.bind (unenc encLea [AV.sl (List.map eI (F.srtI z_1)), (vI (950 : Int))]) fun (z_3 : List Int × Nat) => bif decide (List.length z_3.fst ≤ (3000 : Nat) ∧ (1 :
  Nat) ≤ z_3.snd ∧ z_3.snd ≤ (1000 : Nat)) then Option.bind (unenc encRat [(vI (F.repL z.snd.fst z.snd.snd.fst (List.drop z.snd.snd.snd.fst z.fst) (z.snd.snd.snd.snd.fst,
  z.snd.snd.snd.snd.snd.fst, z.snd.snd.snd.snd.snd.snd.fst, z.snd.snd.snd.snd.snd.snd.snd.fst, z.snd.snd.snd.snd.snd.snd.snd.snd.fst,
  z.snd.snd.snd.snd.snd.snd.snd.snd.snd)).snd.snd.snd.snd.fst), (vI (IntKind.wrap IntKind.i64 ((F.repL z.snd.fst z.snd.snd.fst (List.drop z.snd.snd.snd.fst z.fst)
  (z.snd.snd.snd.snd.fst, z.snd.snd.snd.snd.snd.fst, z.snd.snd.snd.snd.snd.snd.fst, z.snd.snd.snd.snd.snd.snd.snd.fst, z.snd.snd.snd.snd.snd.snd.snd.snd.fst,
  z.snd.snd.snd.snd.snd.snd.snd.snd.snd)).snd.snd.snd.snd.fst + (F.repL z.snd.fst z.snd.snd.fst (List.drop z.snd.snd.snd.fst z.fst) (z.snd.snd.snd.snd.fst,
  z.snd.snd.snd.snd.snd.fst, z.snd.snd.snd.snd.snd.snd.fst, z.snd.snd.snd.snd.snd.snd.snd.fst, z.snd.snd.snd.snd.snd.snd.snd.snd.fst,
  z.snd.snd.snd.snd.snd.snd.snd.snd.snd)).snd.snd.snd.fst)))]) fun (z_4 : Nat × Nat) => bif decide (z_4.fst ≤ (9223372036854775807 : Nat) ∧ z_4.snd ≤ (9223372036854775807 :
  Nat)) then Option.bind (unenc encRat [(vI (F.repL z.snd.fst z.snd.snd.fst (List.drop z.snd.snd.snd.fst z.fst) (z.snd.snd.snd.snd.fst, z.snd.snd.snd.snd.snd.fst,
  z.snd.snd.snd.snd.snd.snd.fst, z.snd.snd.snd.snd.snd.snd.snd.fst, z.snd.snd.snd.snd.snd.snd.snd.snd.fst, z.snd.snd.snd.snd.snd.snd.snd.snd.snd)).snd.snd.snd.snd.snd), (vI
  (F.repL z.snd.fst z.snd.snd.fst (List.drop z.snd.snd.snd.fst z.fst) (z.snd.snd.snd.snd.fst, z.snd.snd.snd.snd.snd.fst, z.snd.snd.snd.snd.snd.snd.fst,
  z.snd.snd.snd.snd.snd.snd.snd.fst, z.snd.snd.snd.snd.snd.snd.snd.snd.fst, z.snd.snd.snd.snd.snd.snd.snd.snd.snd)).snd.snd.snd.fst)]) fun (z_5 : Nat × Nat) => bif decide
  (z_5.fst ≤ (9223372036854775807 : Nat) ∧ z_5.snd ≤ (9223372036854775807 : Nat)) then some (AV.tup [AV.agg [(vI (F.repL z.snd.fst z.snd.snd.fst (List.drop z.snd.snd.snd.fst
  z.fst) (z.snd.snd.snd.snd.fst, z.snd.snd.snd.snd.snd.fst, z.snd.snd.snd.snd.snd.snd.fst, z.snd.snd.snd.snd.snd.snd.snd.fst, z.snd.snd.snd.snd.snd.snd.snd.snd.fst,
  z.snd.snd.snd.snd.snd.snd.snd.snd.snd)).fst), (vI (F.repL z.snd.fst z.snd.snd.fst (List.drop z.snd.snd.snd.fst z.fst) (z.snd.snd.snd.snd.fst, z.snd.snd.snd.snd.snd.fst,
  z.snd.snd.snd.snd.snd.snd.fst, z.snd.snd.snd.snd.snd.snd.snd.fst, z.snd.snd.snd.snd.snd.snd.snd.snd.fst, z.snd.snd.snd.snd.snd.snd.snd.snd.snd)).snd.fst), (vI (F.least
  z_2.fst z_2.snd)), (vI (F.least z_3.fst z_3.snd)), (vI (F.ratio z_4.fst z_4.snd).num), (vI (F.ratio z_4.fst z_4.snd).den), (vI (F.ratio z_5.fst z_5.snd).num), (vI (F.ratio
  z_5.fst z_5.snd).den)], (vI (0 : Int))], []) else none else none else none else none else none else none := (runFR_val).symm.trans (by kernel_rfl)

def encRp1 (l : List Beat) (q : Int) (w : Span) : List AV := [.sl (l.map eBeat), vI q, .agg (eSpan w)]

def encRp (a : (List Beat) × Int × Span) : List AV := encRp1 a.1 a.2.1 a.2.2

theorem encRp_inj (a a' : (List Beat) × Int × Span) (h : encRp a = encRp a') : a = a' := by
  simp only [encRp, encRp1] at h
  try simp [strs_inj, ints_inj, bools_inj, eL_eIs_inj, eBeats_inj, eBeat_iff, eL_eBeats_inj, eSpans_inj, eSpan_iff, eHoles_inj, eHole_iff, eLevels_inj, eLevel_iff, eFigss_inj, eFigs_iff, eRatios_inj, eRatio_iff, eReps_inj, eRep_iff, eStays_inj, eStay_iff] at h
  grind

theorem unRp (l : List Beat) (q : Int) (w : Span) : unenc encRp ([AV.sl (List.map eBeat l), (vI q), AV.agg [(vI w.fr), (vI w.to)]]) = some (l, q, w) := unenc_of encRp_inj (l, q, w) rfl

theorem unRpw (l : List Beat) (q : Int) (w_fr : Int) (w_to : Int) : unenc encRp ([AV.sl (List.map eBeat l), (vI q), AV.agg [(vI w_fr), (vI w_to)]]) = some (l, q, (Span.mk w_fr w_to)) := unenc_of encRp_inj (l, q, (Span.mk w_fr w_to)) rfl

def resRp1 (l : List Beat) (q : Int) (w : Span) : AV × Heap := (.tup [.agg (eRep (F.report l q w).1), vI (F.report l q w).2], [])

def preRp1 (l : List Beat) (q : Int) (w : Span) : Bool := true

noncomputable def oRp : Orc := orc 18 true encRp (fun a => preRp1 a.1 a.2.1 a.2.2) fun a => resRp1 a.1 a.2.1 a.2.2

theorem okRp : OrcOK Try.prog noG oRp := by
  refine mk_ok Try.f18 (keep := false) (by kernel_rfl) (by kernel_rfl) enRp_ok mixed (one_loop (x0 := loopN Try.f18 0) (by kernel_rfl) (lpo_ok ?_)) (by first | exact fun _ _ => ⟨rfl, rfl⟩ | (intro h; cases h)) ?_
  · rintro ⟨l, q, w, i, n1, n2, ws, p, s, b⟩ hp
    exact lpRp_ok l q w i n1 n2 ws p s b hp
  rintro ⟨l, q, w⟩ hpre hok
  show (runF enRp false _ (encRp1 _ _ _)).val = some (resRp1 _ _ _)
  unfold encRp1 resRp1
  rw [evRp]
  simp only [unSpf, unOfS, unSty, unIstC, unFgs, unLea, unRat, unSo, unSpfw, unIstCw, preSpf1, preOfS1, preSty1, preIstC1, preFgs1, preLea1, preRat1, preSo1, unstRp, unstRp0, prlRp, outRp, etaBeat, etaSpan, etaHole, etaLevel, etaFigs, etaRatio, etaRep, etaStay, Option.bind_some, List.length_map, unStrs, unInts, unBools, uneL_eIs, unBeats, uneL_eBeats, unSpans, unHoles, unLevels, unFigss, unRatios, unReps, unStays, F.lt, F.le, cond_true, cond_false, Bool.and_true, Bool.true_and, F.report]
  by_cases h0 : F.spanF l q w = 0
  case neg => rw [bne1 h0]; rfl
  rw [bne0 h0]
  have hqf : F.quietF l q = 0 := by
    unfold F.spanF at h0
    by_cases h : F.quietF l q = 0
    · exact h
    · rw [bne1 h, cond_true] at h0; exact absurd h0 h
  obtain ⟨hc, hq1, hq2⟩ := F.quietF_ok hqf
  have q1 : F.checkB l = 0 ∧ 1 ≤ q ∧ q ≤ 1000000 ∧ 0 = 0 ∧ (0 : Int) = 0 ∧ (0 : Int) = 0 ∧ ([] : List Int) = [] ∧ (0 : Int) = 0 ∧ (0 : Int) = 0 ∧ (0 : Int) = 0 := ⟨hc, hq1, hq2, rfl, rfl, rfl, rfl, rfl, rfl, rfl⟩
  have hok := F.repL_ok (w := w) hc hq1 hq2 l.length 0 _ (Nat.sub_le _ _) (Nat.zero_le _) (F.runAt_zero l) F.raok_zero
  have hlen := F.chk3 hc
  simp only [unSpf, unOfS, unSty, unIstC, unFgs, unLea, unRat, unSo, unSpfw, unIstCw, preSpf1, preOfS1, preSty1, preIstC1, preFgs1, preLea1, preRat1, preSo1, unstRp, unstRp0, prlRp, outRp, etaBeat, etaSpan, etaHole, etaLevel, etaFigs, etaRatio, etaRep, etaStay, Option.bind_some, List.length_map, unStrs, unInts, unBools, uneL_eIs, unBeats, uneL_eBeats, unSpans, unHoles, unLevels, unFigss, unRatios, unReps, unStays, F.lt, F.le, cond_true, cond_false, Bool.and_true, Bool.true_and, unstRp0, decide_eq_true q1, List.drop_zero]
  rw [List.drop_zero] at hok
  generalize F.repL q w l (0, 0, [], 0, 0, 0) = a at hok
  obtain ⟨n1, n2, ws, p, s, b⟩ := a
  obtain ⟨⟨a1, a2⟩, ⟨a3, a4⟩, a5, ⟨a6, a7⟩, ⟨a8, a9⟩, a10, a11⟩ := hok
  simp only at a1 a2 a3 a4 a5 a6 a7 a8 a9 a10 a11
  obtain ⟨p, rfl⟩ := Int.eq_ofNat_of_zero_le a6
  obtain ⟨s, rfl⟩ := Int.eq_ofNat_of_zero_le a8
  obtain ⟨b, rfl⟩ := Int.eq_ofNat_of_zero_le a10
  have r1 : ws.length ≤ 100000 := by omega
  have r2 : (F.srtI ws).length ≤ 3000 ∧ 1 ≤ 500 ∧ 500 ≤ 1000 := ⟨by rw [F.srtI_len]; omega, by omega, by omega⟩
  have r3 : (F.srtI ws).length ≤ 3000 ∧ 1 ≤ 950 ∧ 950 ≤ 1000 := ⟨by rw [F.srtI_len]; omega, by omega, by omega⟩
  have r4 : s ≤ 9223372036854775807 ∧ s + p ≤ 9223372036854775807 := ⟨by omega, by omega⟩
  have r5 : b ≤ 9223372036854775807 ∧ p ≤ 9223372036854775807 := ⟨by omega, by omega⟩
  simp only [unSpf, unOfS, unSty, unIstC, unFgs, unLea, unRat, unSo, unSpfw, unIstCw, preSpf1, preOfS1, preSty1, preIstC1, preFgs1, preLea1, preRat1, preSo1, unstRp, unstRp0, prlRp, outRp, etaBeat, etaSpan, etaHole, etaLevel, etaFigs, etaRatio, etaRep, etaStay, Option.bind_some, List.length_map, unStrs, unInts, unBools, uneL_eIs, unBeats, uneL_eBeats, unSpans, unHoles, unLevels, unFigss, unRatios, unReps, unStays, F.lt, F.le, cond_true, cond_false, Bool.and_true, Bool.true_and, decide_eq_true r1, lea_500, lea_950, decide_eq_true r2, decide_eq_true r3, w_add (show s + p ≤ 9223372036854775807 by omega), decide_eq_true r4, decide_eq_true r5, F.repEnd, Int.toNat_natCast, ← Int.natCast_add]
  simp only [hc, hq1, hq2, and_self, decide_true, cond_true, w_nat (show s + p ≤ 9223372036854775807 by omega), unRat, Option.bind_some, decide_eq_true r4]
  rfl

end M
end Go.Proofs.Ytnkaadiofjoacaa
