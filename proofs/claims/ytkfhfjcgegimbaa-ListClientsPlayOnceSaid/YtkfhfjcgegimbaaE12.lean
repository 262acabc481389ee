/- What is proved here: what the law that changes follow returns on plain data (no statement of the seat). -/
import Derived.Test.YtkfhfjcgegimbaaE11
namespace Go.Proofs.Ytkfhfjcgegimbaa
open Go Go.RowKit
set_option linter.unusedVariables false
set_option linter.unusedSimpArgs false

/-- How many breaks entries have. -/
def F.cnt : List Ent → Nat
  | [] => 0
  | e :: l => (bif e.brk then 1 else 0) + F.cnt l

theorem F.cnt_app : ∀ (a b : List Ent), F.cnt (a ++ b) = F.cnt a + F.cnt b
  | [], b => by simp [F.cnt]
  | e :: a, b => by simp only [List.cons_append, F.cnt, F.cnt_app a b]; omega

theorem F.cnt_le : ∀ (a : List Ent), F.cnt a ≤ a.length
  | [] => by simp [F.cnt]
  | e :: a => by
    have := F.cnt_le a
    simp only [F.cnt, List.length_cons]
    cases e.brk <;> simp <;> omega

/-- Numbers of breaks, without bounds. -/
def F.bnZ (b : Int) : List Ent → List Int
  | [] => []
  | e :: l => (b + (bif e.brk then 1 else 0)) :: F.bnZ (b + (bif e.brk then 1 else 0)) l

theorem F.bnA_eq : ∀ (l : List Ent) (b : Int) (acc : List Int), 0 ≤ b → b + l.length ≤ 4611686018427387904 → F.bnA b acc l = acc ++ F.bnZ b l
  | [], b, acc, _, _ => by simp [F.bnA, F.bnZ]
  | e :: l, b, acc, h1, h2 => by
    simp only [List.length_cons] at h2
    have hw : IntKind.i64.wrap (b + 1) = b + 1 := M.wrap_id (by omega) (by omega)
    show F.bnA (F.bnS (b, acc) e).1 (F.bnS (b, acc) e).2 l = _
    have e1 : F.bnS (b, acc) e = (b + (bif e.brk then 1 else 0), acc ++ [b + (bif e.brk then 1 else 0)]) := by
      simp only [F.bnS, hw]
      cases e.brk <;> simp
    rw [e1]
    simp only [F.bnZ]
    rw [F.bnA_eq l _ _ (by cases e.brk <;> simp <;> omega) (by cases e.brk <;> simp <;> omega)]
    simp

theorem F.bnZ_at : ∀ {l : List Ent} {b : Int} {i : Nat} {v : Int}, (F.bnZ b l)[i]? = some v → v = b + F.cnt (l.take (i + 1))
  | [], b, i, v, h => by simp [F.bnZ] at h
  | e :: l, b, 0, v, h => by
    simp only [F.bnZ, List.getElem?_cons_zero, Option.some.injEq] at h
    subst h
    simp only [List.take_succ_cons, List.take_zero, F.cnt]
    cases e.brk <;> simp
  | e :: l, b, i + 1, v, h => by
    simp only [F.bnZ, List.getElem?_cons_succ] at h
    have := F.bnZ_at h
    rw [this, List.take_succ_cons]
    simp only [F.cnt]
    cases e.brk <;> simp <;> omega

theorem F.bn_at {l : Lst} (hc : F.check l = 0) {i : Nat} {v : Int} (h : (F.bn l)[i]? = some v) : v = l.breaks + F.cnt (l.entries.take (i + 1)) := by
  obtain ⟨h1, _, _, h2, h3⟩ := F.check_ok hc
  unfold F.bn at h
  rw [F.bnA_eq _ _ _ (by omega) (by omega), List.nil_append] at h
  exact F.bnZ_at h

/-- A list has become of another one. -/
def F.Rel (l now : Lst) : Prop :=
  F.check l = 0 ∧ F.check now = 0 ∧ now.target = l.target ∧ (l.ended = true → now = l) ∧
  ∃ (added : List Ent) (d : Nat), now.entries = (l.entries ++ added).drop d ∧ d ≤ (l.entries ++ added).length ∧ now.first = l.first + d ∧ now.breaks = l.breaks + F.cnt ((l.entries ++ added).take d)

theorem F.rel_self {l : Lst} (h : F.check l = 0) : F.Rel l l := ⟨h, h, rfl, fun _ => rfl, [], 0, by simp, by simp, by simp, by simp [F.cnt]⟩

theorem F.ffI_all {α : Type} {g : α → Int} : ∀ {l : List α}, (∀ y ∈ l, g y = 0) → M.ffI g l = 0
  | [], _ => rfl
  | y :: l, h => by
    simp only [M.ffI]
    rw [if_pos (h y (by simp))]
    exact F.ffI_all fun z hz => h z (by simp [hz])

theorem F.rel_ends {l now : Lst} (h : F.Rel l now) : l.first ≤ now.first ∧ F.endN l ≤ F.endN now := by
  obtain ⟨c1, c2, _, _, added, d, h1, h2, h3, _⟩ := h
  rw [F.endN_eq c1, F.endN_eq c2]
  have : now.entries.length = (l.entries ++ added).length - d := by rw [h1, List.length_drop]
  simp only [List.length_append] at this h2
  omega

theorem F.rel_follows {l now : Lst} (h : F.Rel l now) : F.follows l now = 0 := by
  have he := F.rel_ends h
  obtain ⟨c1, c2, ht, hend, added, d, h1, h2, h3, h4⟩ := h
  have b1 : (l.target != now.target) = false := by simp [ht]
  have b2 : (l.ended && !F.sameL l now) = false := by
    cases e : l.ended
    · rfl
    · rw [hend e, F.sameL_refl]; rfl
  have b3 : (F.lt now.first l.first || F.lt (F.endN now) (F.endN l)) = false := by
    simp [F.lt]; omega
  have hd : (now.first - l.first).toNat = d := by omega
  have b4 : F.folL l now now.first = 0 := by
    refine F.ffI_all fun y hy => ?_
    have hy := List.mem_of_mem_drop hy
    obtain ⟨k, hk, e⟩ := List.getElem_of_mem hy
    have hyk : (F.folX l now)[k]? = some y := by rw [List.getElem?_eq_getElem hk, e]
    obtain ⟨a1, a2, a3, a4⟩ := F.folX_at hyk
    rw [hd] at a1 a3
    have hlt := M.lt_at a1
    have ee : y.1.1 = y.1.2 := by
      rw [h1, List.getElem?_drop, List.getElem?_append_left hlt, a1] at a2
      exact Option.some.inj a2
    have v1 := F.bn_at c1 a3
    have v2 := F.bn_at c2 a4
    have ev : y.2.1 = y.2.2 := by
      rw [v1, v2, h4, h1]
      have : (l.entries ++ added).take (d + k + 1) = (l.entries ++ added).take d ++ ((l.entries ++ added).drop d).take (k + 1) := by
        rw [Nat.add_assoc, List.take_add]
      have e2 : (l.entries ++ added).take (d + k + 1) = l.entries.take (d + k + 1) := List.take_append_of_le_length (by omega)
      rw [← e2, this, F.cnt_app]
      omega
    simp [F.folG, ee, F.sameE_refl, ev]
  have b5 : (F.le (F.endN l) now.first && F.lt now.breaks (F.last l)) = false := by
    cases hle : F.le (F.endN l) now.first
    · rfl
    · simp only [F.le, decide_eq_true_eq] at hle
      rw [F.endN_eq c1] at hle
      have hlast : F.last l ≤ l.breaks + F.cnt l.entries := by
        unfold F.last
        cases h0 : F.lt 0 (F.bn l).length
        · simp only [cond_false]; omega
        · simp only [F.lt, decide_eq_true_eq] at h0
          have hb := F.bn_len l
          simp only [cond_true]
          have hg : (F.bn l)[(F.bn l).length - 1]? = some ((F.bn l).getD ((F.bn l).length - 1) 0) := by
            rw [List.getD_eq_getElem?_getD, List.getElem?_eq_getElem (by omega)]; rfl
          have := F.bn_at c1 hg
          rw [this, show (F.bn l).length - 1 + 1 = l.entries.length by omega, List.take_length]
          omega
      have : F.cnt l.entries ≤ F.cnt ((l.entries ++ added).take d) := by
        have hdl : d = l.entries.length + (d - l.entries.length) := by omega
        rw [hdl, List.take_add, F.cnt_app]
        have : (l.entries ++ added).take l.entries.length = l.entries := by simp
        rw [this]
        omega
      simp [F.lt]
      omega
  unfold F.follows F.fol
  rw [c1, c2, b1, b2, b3, b4, b5]
  rfl

/-- What goes, with its breaks. -/
theorem F.gone_eq (keep : Int) : ∀ (l : List Ent) (left b : Int) (n : Nat), 0 ≤ b → b + l.length ≤ 4611686018427387904 →
    (F.gone keep left b n l).1.2 = b + F.cnt (l.take ((F.gone keep left b n l).2 - n)) ∧ n ≤ (F.gone keep left b n l).2
  | [], left, b, n, _, _ => by simp [F.gone, M.scan, F.cnt]
  | e :: l, left, b, n, h1, h2 => by
    simp only [List.length_cons] at h2
    have hw : IntKind.i64.wrap (b + 1) = b + 1 := M.wrap_id (by omega) (by omega)
    by_cases hk : keep ≤ IntKind.i64.wrap (left - e.milli)
    · have hs : F.goneS keep (left, b) e = some (IntKind.i64.wrap (left - e.milli), b + (bif e.brk then 1 else 0)) := by
        simp only [F.goneS, hk, if_true, hw]
        cases e.brk <;> simp
      have hg : F.gone keep left b n (e :: l) = F.gone keep (IntKind.i64.wrap (left - e.milli)) (b + (bif e.brk then 1 else 0)) (n + 1) l := by
        simp only [F.gone, M.scan, hs]
      rw [hg]
      have ih := F.gone_eq keep l (IntKind.i64.wrap (left - e.milli)) (b + (bif e.brk then 1 else 0)) (n + 1) (by cases e.brk <;> simp <;> omega) (by cases e.brk <;> simp <;> omega)
      refine ⟨?_, by omega⟩
      have : (F.gone keep (IntKind.i64.wrap (left - e.milli)) (b + (bif e.brk then 1 else 0)) (n + 1) l).2 - n = (F.gone keep (IntKind.i64.wrap (left - e.milli)) (b + (bif e.brk then 1 else 0)) (n + 1) l).2 - (n + 1) + 1 := by omega
      rw [this, List.take_succ_cons, ih.1]
      simp only [F.cnt]
      cases e.brk <;> simp <;> omega
    · have hs : F.goneS keep (left, b) e = none := by simp only [F.goneS, hk, if_false]
      simp only [F.gone, M.scan, hs]
      simp [F.cnt]

theorem F.goneL_eq {l : Lst} (hc : F.check l = 0) (keep : Int) : (F.goneL l keep).2 = l.breaks + F.cnt (l.entries.take (F.goneL l keep).1) := by
  obtain ⟨h1, _, _, h2, h3⟩ := F.check_ok hc
  have := (F.gone_eq keep l.entries (F.lenF 0 l.entries) l.breaks 0 (by omega) (by omega)).1
  simpa [F.goneL] using this

theorem F.check_mk {l : Lst} (h1 : F.out l.target 1 3600 = false) (h2 : F.out l.first 0 999999999999000 = false) (h3 : F.out l.breaks 0 1000000000000000 = false) (h4 : l.entries.length ≤ 1000) (h5 : ∀ e ∈ l.entries, F.entryFault e l.target = 0) : F.check l = 0 := by
  unfold F.check
  rw [h1, h2, h3]
  simp only [Bool.or_self, Bool.false_eq_true, if_false]
  rw [if_neg (by omega)]
  exact F.ffI_all h5

theorem F.add_ok {l : Lst} {e : Ent} (h : (F.add l e).2 = 0) : l.ended = false ∧ F.check (F.withE l (l.entries ++ [e])) = 0 ∧ (F.add l e).1 = F.withE l (l.entries ++ [e]) := by
  unfold F.add at h ⊢
  split at h
  · exact absurd h ‹_›
  · rename_i h0
    rw [if_neg h0]
    split at h
    · cases h
    · rename_i h1
      rw [if_neg h1]
      split at h
      · exact absurd h ‹_›
      · rename_i h2
        rw [if_neg h2]
        exact ⟨by simpa using h1, by simpa using h2, rfl⟩

theorem F.slide_ok {l : Lst} {keep : Int} (h : (F.slide l keep).2.2 = 0) : F.check l = 0 ∧ l.ended = false ∧ IntKind.i64.wrap (l.first + (F.goneL l keep).1) ≤ 999999999999000 ∧ (F.goneL l keep).2 ≤ 1000000000000000 ∧
    (F.slide l keep).1 = ⟨l.target, IntKind.i64.wrap (l.first + (F.goneL l keep).1), (F.goneL l keep).2, l.entries.drop (F.goneL l keep).1, l.ended⟩ := by
  unfold F.slide at h ⊢
  split at h
  · exact absurd h ‹_›
  · rename_i h0
    rw [if_neg h0]
    split at h
    · cases h
    · rename_i h1
      rw [if_neg h1]
      split at h
      · cases h
      · rename_i h2
        rw [if_neg h2]
        split at h
        · cases h
        · rename_i h3
          rw [if_neg h3]
          simp only [Bool.or_eq_true, decide_eq_true_eq] at h3
          exact ⟨by simpa using h0, by simpa using h2, by omega, by omega, rfl⟩

theorem F.end_ok {l : Lst} (h : (F.endL l).2 = 0) : F.check l = 0 ∧ (F.endL l).1 = ⟨l.target, l.first, l.breaks, l.entries, true⟩ := by
  unfold F.endL at h ⊢
  split at h
  · exact absurd h ‹_›
  · rename_i h0
    rw [if_neg h0]
    exact ⟨by simpa using h0, rfl⟩

theorem F.rel_turned {l now : Lst} (h : F.Rel l now) (t : Trn) : F.Rel l (F.turned now t) := by
  have hor : ∀ (b : Lst) (f : Int), (f = 0 → F.Rel l b) → F.Rel l (F.orL now b f) := by
    intro b f hb
    unfold F.orL
    by_cases hf : f = 0
    · simp only [hf, bne_self_eq_false, cond_false]; exact hb hf
    · have : (f != 0) = true := by simp [hf]
      rw [this]; exact h
  obtain ⟨c1, c2, ht, hend, added, d, h1, h2, h3, h4⟩ := h
  unfold F.turned
  cases (t.kind == 0)
  · cases (t.kind == 1)
    · cases (t.kind == 2)
      · exact ⟨c1, c2, ht, hend, added, d, h1, h2, h3, h4⟩
      · refine hor _ _ fun hf => ?_
        obtain ⟨_, e⟩ := F.end_ok hf
        rw [e]
        refine ⟨c1, c2, ht, fun hl => ?_, added, d, h1, h2, h3, h4⟩
        have := hend hl
        subst this
        cases now
        simp only at hl
        simp only [hl]
    · refine hor _ _ fun hf => ?_
      obtain ⟨_, e1, e2, e3, e4⟩ := F.slide_ok hf
      obtain ⟨n1, n2, n3, n4, n5⟩ := F.check_ok c2
      have hgl := F.goneL_le now t.keep
      have hgb := F.goneL_eq c2 t.keep
      have hw : IntKind.i64.wrap (now.first + ((F.goneL now t.keep).1 : Int)) = now.first + ((F.goneL now t.keep).1 : Int) := M.wrap_id (by omega) (by omega)
      rw [hw] at e2
      rw [e4, hw]
      refine ⟨c1, ?_, ht, fun hl => ?_, added, d + (F.goneL now t.keep).1, ?_, ?_, ?_, ?_⟩
      · refine F.check_mk ?_ ?_ ?_ ?_ ?_
        · simp only [F.out]; simp; omega
        · simp only [F.out]; simp; omega
        · simp only [F.out]; simp; omega
        · simp only [List.length_drop]; omega
        · intro e he
          exact n2 e (List.mem_of_mem_drop he)
      · have := hend hl
        subst this
        rw [hl] at e1; cases e1
      · simp only [h1, List.drop_drop]
      · have : now.entries.length = (l.entries ++ added).length - d := by rw [h1, List.length_drop]
        omega
      · simp only [h3]; omega
      · simp only [hgb, h4]
        rw [List.take_add, F.cnt_app, h1]
        omega
  · refine hor _ _ fun hf => ?_
    obtain ⟨e1, e2, e3⟩ := F.add_ok hf
    rw [e3]
    refine ⟨c1, e2, ht, fun hl => ?_, added ++ [t.entry], d, ?_, ?_, h3, ?_⟩
    · have := hend hl
      subst this
      rw [hl] at e1; cases e1
    · simp only [F.withE, h1]
      rw [← List.append_assoc, List.drop_append_of_le_length h2]
    · rw [← List.append_assoc, List.length_append]; omega
    · show now.breaks = _
      rw [← List.append_assoc, List.take_append_of_le_length h2]
      exact h4

open Classical in
noncomputable def F.relB (l now : Lst) : Bool := decide (F.Rel l now)

theorem F.relB_iff {l now : Lst} : F.relB l now = true ↔ F.Rel l now := by simp [F.relB]

def F.turns (now : Lst) (ts : List Trn) : Lst := ts.foldl F.turned now

theorem F.rel_turns {l : Lst} : ∀ (ts : List Trn) {now : Lst}, F.Rel l now → F.Rel l (F.turns now ts)
  | [], now, h => h
  | t :: ts, now, h => F.rel_turns ts (F.rel_turned h t)

def F.tOK (ts : List Trn) : Bool := ts.all fun t => decide (t.entry.extra.length * 16 ≤ 140737488355328)

namespace M


def stLFo (l : Lst) (ts : List Trn) (now : Lst) (k : Nat) : St := ⟨[(8, vI k), (7, .ptr 7 0 0), (2, .ptr 2 0 0), (1, .sl (ts.map eTrn))], [(7, ⟨true, 0, 0, [eLst now]⟩), (2, ⟨true, 0, 0, [eLst l]⟩)]⟩

def stLFo1 (a : Lst × (List Trn) × Lst × Nat) : St := stLFo a.1 a.2.1 a.2.2.1 a.2.2.2

theorem stLFo_inj (a a' : Lst × (List Trn) × Lst × Nat) (h : stLFo1 a = stLFo1 a') : a = a' := by
  simp only [stLFo1, stLFo] at h
  try simp [strs_inj, ents_inj, eEnt_iff, eLst_iff, ints_inj, eTrn_iff, trns_inj] at h
  grind

theorem unstLFo (l : Lst) (ts : List Trn) (now : Lst) (k : Nat) : unenc stLFo1 (St.mk [(8, (vI (↑k : Int))), (7, .ptr 7 0 0), (2, .ptr 2 0 0), (1, AV.sl (List.map eTrn ts))] [(7, Blk.mk true 0 0 [[(vI now.target), (vI now.first), (vI now.breaks),
  AV.sl (List.map eEnt now.entries), (vB now.ended)]]), (2, Blk.mk true 0 0 [[(vI l.target), (vI l.first), (vI l.breaks), AV.sl (List.map eEnt l.entries), (vB l.ended)]])]) = some (l, ts, now, k) := unenc_of stLFo_inj (l, ts, now, k) rfl

theorem unstLFo0 (l : Lst) (ts : List Trn) (now : Lst) : unenc stLFo1 (St.mk [(8, (vI (0 : Int))), (7, .ptr 7 0 0), (2, .ptr 2 0 0), (1, AV.sl (List.map eTrn ts))] [(7, Blk.mk true 0 0 [[(vI now.target), (vI now.first), (vI now.breaks), AV.sl
  (List.map eEnt now.entries), (vB now.ended)]]), (2, Blk.mk true 0 0 [[(vI l.target), (vI l.first), (vI l.breaks), AV.sl (List.map eEnt l.entries), (vB l.ended)]])]) = some (l, ts, now, 0) := unenc_of stLFo_inj (l, ts, now, 0) rfl

def outLFo (l : Lst) (ts : List Trn) (now : Lst) (k : Nat) : T (Ex × St) := .ret (.exit 0, ⟨[(7, .ptr 7 0 0), (2, .ptr 2 0 0)], [(7, ⟨true, 0, 0, [eLst (F.turns now (ts.drop k))]⟩), (2, ⟨true, 0, 0, [eLst l]⟩)]⟩)

noncomputable def prlLFo (l : Lst) (ts : List Trn) (now : Lst) (k : Nat) : Bool := decide (ts.length ≤ 9223372036854775807) && decide (k ≤ ts.length) && F.tOK ts && F.relB l now

noncomputable def lpLFo : Nat × (St → T (Ex × St)) := (6, lpo [8, 7, 2, 1] [7, 2] stLFo1 (fun a => prlLFo a.1 a.2.1 a.2.2.1 a.2.2.2) fun a => outLFo a.1 a.2.1 a.2.2.1 a.2.2.2)

noncomputable def enLFo : Env := envH ty noG lks [oLng, oAwk, oTrd, oFws] [] [] [lpLFo]

theorem enLFo_ok : EnvOK Try.prog enLFo := by
  refine envH_ok lks_ok ty_ok ?_ ?_
  · simp only [List.forall_mem_cons]
    exact ⟨okLng, okAwk, okTrd, okFws, by simp⟩
  · simp

theorem evLFoL (l : Lst) (ts : List Trn) (now : Lst) (k : Nat) : ((exec enLFo (loopN Try.f8 0) (stLFo l ts now k)).bind (lessX ([8, 7, 2, 1], [7, 2]) ([7, 2], [7, 2]) ([4], []))).val =
  bif decide ((↑k : Int) < (↑(List.length (List.map eTrn ts)) : Int)) then Option.bind (unenc (List.map eTrn) (List.map eTrn ts)) fun (z : List Trn) => bif decide (k <
  List.length z) then Option.bind (unenc encTrd [AV.agg [(vI now.target), (vI now.first), (vI now.breaks), AV.sl (List.map eEnt now.entries), (vB now.ended)], AV.agg [(vI
  (List.getD z k (Trn.mk (0 : Int) (Ent.mk (ByteArray.mk (Array.mk [])) (0 : Int) false (0 : Int) (ByteArray.mk (Array.mk [])) false []) (0 : Int))).kind), (vS (List.getD z
  k (Trn.mk (0 : Int) (Ent.mk (ByteArray.mk (Array.mk [])) (0 : Int) false (0 : Int) (ByteArray.mk (Array.mk [])) false []) (0 : Int))).entry.uri), (vI (List.getD z k
  (Trn.mk (0 : Int) (Ent.mk (ByteArray.mk (Array.mk [])) (0 : Int) false (0 : Int) (ByteArray.mk (Array.mk [])) false []) (0 : Int))).entry.milli), (vB (List.getD z k
  (Trn.mk (0 : Int) (Ent.mk (ByteArray.mk (Array.mk [])) (0 : Int) false (0 : Int) (ByteArray.mk (Array.mk [])) false []) (0 : Int))).entry.brk), (vI (List.getD z k (Trn.mk
  (0 : Int) (Ent.mk (ByteArray.mk (Array.mk [])) (0 : Int) false (0 : Int) (ByteArray.mk (Array.mk [])) false []) (0 : Int))).entry.date), (vS (List.getD z k (Trn.mk (0 :
  Int) (Ent.mk (ByteArray.mk (Array.mk [])) (0 : Int) false (0 : Int) (ByteArray.mk (Array.mk [])) false []) (0 : Int))).entry.key), (vB (List.getD z k (Trn.mk (0 : Int)
  (Ent.mk (ByteArray.mk (Array.mk [])) (0 : Int) false (0 : Int) (ByteArray.mk (Array.mk [])) false []) (0 : Int))).entry.gap), AV.sl (List.map eStr (List.getD z k (Trn.mk
  (0 : Int) (Ent.mk (ByteArray.mk (Array.mk [])) (0 : Int) false (0 : Int) (ByteArray.mk (Array.mk [])) false []) (0 : Int))).entry.extra), (vI (List.getD z k (Trn.mk (0 :
  Int) (Ent.mk (ByteArray.mk (Array.mk [])) (0 : Int) false (0 : Int) (ByteArray.mk (Array.mk [])) false []) (0 : Int))).keep)]]) fun (z : Lst × Trn) => bif decide
  (List.length z.snd.entry.extra * (16 : Nat) ≤ (140737488355328 : Nat)) then Option.bind (unenc encFws [AV.agg [(vI now.target), (vI now.first), (vI now.breaks), AV.sl
  (List.map eEnt now.entries), (vB now.ended)], AV.agg [(vI (F.turned z.fst z.snd).target), (vI (F.turned z.fst z.snd).first), (vI (F.turned z.fst z.snd).breaks), AV.sl
  (List.map eEnt (F.turned z.fst z.snd).entries), (vB (F.turned z.fst z.snd).ended)]]) fun (z_1 : Lst × Lst) => bif !F.follows z_1.fst z_1.snd != (0 : Int) then Option.bind
  (unenc encFws [AV.agg [(vI l.target), (vI l.first), (vI l.breaks), AV.sl (List.map eEnt l.entries), (vB l.ended)], AV.agg [(vI (F.turned z.fst z.snd).target), (vI
  (F.turned z.fst z.snd).first), (vI (F.turned z.fst z.snd).breaks), AV.sl (List.map eEnt (F.turned z.fst z.snd).entries), (vB (F.turned z.fst z.snd).ended)]]) fun (z_2 :
  Lst × Lst) => bif bif F.follows z_1.fst z_1.snd != (0 : Int) then true else F.follows z_2.fst z_2.snd != (0 : Int) then some (Ex.ret, St.mk [(4, (vB false))] []) else some
  (Ex.normal, St.mk [(8, (vI (IntKind.wrap IntKind.i64 ((↑k : Int) + (1 : Int))))), (7, .ptr 7 0 0), (2, .ptr 2 0 0), (1, AV.sl (List.map eTrn ts))] [(7, Blk.mk true 0 0
  [[(vI (F.turned z.fst z.snd).target), (vI (F.turned z.fst z.snd).first), (vI (F.turned z.fst z.snd).breaks), AV.sl (List.map eEnt (F.turned z.fst z.snd).entries), (vB
  (F.turned z.fst z.snd).ended)]]), (2, Blk.mk true 0 0 [[(vI l.target), (vI l.first), (vI l.breaks), AV.sl (List.map eEnt l.entries), (vB l.ended)]])]) else bif !F.follows
  z_1.fst z_1.snd != (0 : Int) then none else some (Ex.ret, St.mk [(4, (vB false))] []) else none else none else some (Ex.exit (0 : Nat), St.mk [(7, .ptr 7 0 0), (2, .ptr 2
  0 0)] [(7, Blk.mk true 0 0 [[(vI now.target), (vI now.first), (vI now.breaks), AV.sl (List.map eEnt now.entries), (vB now.ended)]]), (2, Blk.mk true 0 0 [[(vI l.target),
  (vI l.first), (vI l.breaks), AV.sl (List.map eEnt l.entries), (vB l.ended)]])]) := by kernel_rfl

theorem lpLFo_ok (l : Lst) (ts : List Trn) (now : Lst) (k : Nat) (hp : prlLFo l ts now k = true) : ∀ ex s', (outLFo l ts now k).val = some (ex, s') → LoopOK enLFo (loopN Try.f8 0) (stLFo l ts now k) ex s' := by
  simp only [prlLFo, Bool.and_eq_true, decide_eq_true_eq] at hp
  obtain ⟨⟨⟨h1, h2⟩, h3⟩, h4⟩ := hp
  refine loop_fold (xs := ts) (st := fun a k => stLFo l ts a k) (f := F.turned) (fin := fun a => (.exit 0, ⟨[(7, .ptr 7 0 0), (2, .ptr 2 0 0)], [(7, ⟨true, 0, 0, [eLst a]⟩), (2, ⟨true, 0, 0, [eLst l]⟩)]⟩)) (I := fun a _ => F.Rel l a) (n := ([8, 7, 2, 1], [7, 2])) (e := ([7, 2], [7, 2])) (r := ([4], [])) ?_ (fun _ => ⟨by simp, rfl⟩) (fun _ _ => rfl) ?_ now k h2 (F.relB_iff.1 h4)
  · intro now _
    rw [evLFoL]; simp
    exact ⟨rfl, rfl⟩
  · intro now k y hy hI
    have hlt := lt_at hy
    have hr := F.rel_turned hI y
    have f1 := F.rel_follows hr
    have f2 := F.rel_follows (F.rel_turned (F.rel_self hI.2.1) y)
    have hy16 : decide (y.entry.extra.length * 16 ≤ 140737488355328) = true := List.all_eq_true.1 h3 y (List.mem_of_getElem? hy)
    refine ⟨?_, hr⟩
    rw [evLFoL]
    simp only [unLng, unAwk, unTrd, unFws, unLngw, unTrdw, unFwsw, preLng1, preAwk1, preTrd1, preFws1, unstLFo, unstLFo0, prlLFo, outLFo, etaEnt, etaLst, Option.bind_some, List.length_map, unStrs, unInts, unBools, unEnts, unItms, unTrns, cond_true, cond_false, Bool.and_true, Bool.true_and, cast_lt hlt, decide_eq_true hlt, next_at hlt h1, getD_at hy, stLFo, f1, f2, hy16, bne_self_eq_false]
    rfl

theorem evLFo (l : Lst) (ts : List Trn) : (runF enLFo false Try.f8 [.agg (eLst l), .sl (ts.map eTrn)]).val =
  Option.bind (unenc encLng [AV.agg [(vI l.target), (vI l.first), (vI l.breaks), AV.sl (List.map eEnt l.entries), (vB l.ended)]]) fun (z : Lst) => bif (F.length z).snd != (0
  : Int) then bif (F.length z).fst == (0 : Int) then Option.bind (unenc encAwk []) fun (z_1 : Unit) => some ((vB (bif (F.length z).fst == (0 : Int) then true else false)),
  []) else some ((vB false), []) else Option.bind (unenc stLFo1 (St.mk [(8, (vI (0 : Int))), (7, .ptr 7 0 0), (2, .ptr 2 0 0), (1, AV.sl (List.map eTrn ts))] [(7, Blk.mk
  true 0 0 [[(vI l.target), (vI l.first), (vI l.breaks), AV.sl (List.map eEnt l.entries), (vB l.ended)]]), (2, Blk.mk true 0 0 [[(vI l.target), (vI l.first), (vI l.breaks),
  AV.sl (List.map eEnt l.entries), (vB l.ended)]])])) fun (z : Lst × List Trn × Lst × Nat) => bif decide (List.length z.snd.fst ≤ (9223372036854775807 : Nat)) && decide
  (z.snd.snd.snd ≤ List.length z.snd.fst) && F.tOK z.snd.fst && F.relB z.fst z.snd.snd.fst && true then bif decide (z.fst.first ≤ (F.turns z.snd.snd.fst (List.drop
  z.snd.snd.snd z.snd.fst)).first) then bif decide (z.fst.first ≤ (F.turns z.snd.snd.fst (List.drop z.snd.snd.snd z.snd.fst)).first) then bif bif decide (z.fst.first ≤
  (F.turns z.snd.snd.fst (List.drop z.snd.snd.snd z.snd.fst)).first) then decide (IntKind.wrap IntKind.i64 (z.fst.first + (↑(List.length (List.map eEnt z.fst.entries)) :
  Int)) ≤ IntKind.wrap IntKind.i64 ((F.turns z.snd.snd.fst (List.drop z.snd.snd.snd z.snd.fst)).first + (↑(List.length (List.map eEnt (F.turns z.snd.snd.fst (List.drop
  z.snd.snd.snd z.snd.fst)).entries)) : Int))) else false then Option.bind (unenc encAwk []) fun (z_1 : Unit) => some ((vB (bif bif decide (z.fst.first ≤ (F.turns
  z.snd.snd.fst (List.drop z.snd.snd.snd z.snd.fst)).first) then decide (IntKind.wrap IntKind.i64 (z.fst.first + (↑(List.length (List.map eEnt z.fst.entries)) : Int)) ≤
  IntKind.wrap IntKind.i64 ((F.turns z.snd.snd.fst (List.drop z.snd.snd.snd z.snd.fst)).first + (↑(List.length (List.map eEnt (F.turns z.snd.snd.fst (List.drop z.snd.snd.snd
  z.snd.fst)).entries)) : Int))) else false then true else false)), []) else some ((vB false), []) else bif decide (z.fst.first ≤ (F.turns z.snd.snd.fst (List.drop
  z.snd.snd.snd z.snd.fst)).first) then none else some ((vB false), []) else bif decide (z.fst.first ≤ (F.turns z.snd.snd.fst (List.drop z.snd.snd.snd z.snd.fst)).first)
  then bif decide (z.fst.first ≤ (F.turns z.snd.snd.fst (List.drop z.snd.snd.snd z.snd.fst)).first) then none else some ((vB false), []) else bif decide (z.fst.first ≤
  (F.turns z.snd.snd.fst (List.drop z.snd.snd.snd z.snd.fst)).first) then none else some ((vB false), []) else none := by kernel_rfl

def encLFo1 (l : Lst) (ts : List Trn) : List AV := [.agg (eLst l), .sl (ts.map eTrn)]

def encLFo (a : Lst × (List Trn)) : List AV := encLFo1 a.1 a.2

theorem encLFo_inj (a a' : Lst × (List Trn)) (h : encLFo a = encLFo a') : a = a' := by
  simp only [encLFo, encLFo1] at h
  try simp [strs_inj, ents_inj, eEnt_iff, eLst_iff, ints_inj, eTrn_iff, trns_inj] at h
  grind

theorem unLFo (l : Lst) (ts : List Trn) : unenc encLFo ([AV.agg [(vI l.target), (vI l.first), (vI l.breaks), AV.sl (List.map eEnt l.entries), (vB l.ended)], AV.sl (List.map eTrn ts)]) = some (l, ts) := unenc_of encLFo_inj (l, ts) rfl

theorem unLFow (l_target : Int) (l_first : Int) (l_breaks : Int) (l_entries : List Ent) (l_ended : Bool) (ts : List Trn) : unenc encLFo ([AV.agg [(vI l_target), (vI l_first), (vI l_breaks), AV.sl (List.map eEnt l_entries), (vB l_ended)], AV.sl (List.map eTrn ts)]) = some ((Lst.mk l_target l_first l_breaks l_entries l_ended), ts) := unenc_of encLFo_inj ((Lst.mk l_target l_first l_breaks l_entries l_ended), ts) rfl

def resLFo1 (l : Lst) (ts : List Trn) : AV × Heap := (vB true, [])

def preLFo1 (l : Lst) (ts : List Trn) : Bool := F.tOK ts

noncomputable def oLFo : Orc := orc 8 true encLFo (fun a => preLFo1 a.1 a.2) fun a => resLFo1 a.1 a.2

theorem okLFo : OrcOK Try.prog noG oLFo := by
  refine mk_ok Try.f8 (keep := false) (by kernel_rfl) (by kernel_rfl) enLFo_ok mixed (one_loop (x0 := loopN Try.f8 0) (by kernel_rfl) (lpo_ok ?_)) (by first | exact fun _ _ => ⟨rfl, rfl⟩ | (intro h; cases h)) ?_
  · rintro ⟨l, ts, now, k⟩ hp
    exact lpLFo_ok l ts now k hp
  rintro ⟨l, ts⟩ hpre hok
  show (runF enLFo false _ (encLFo1 _ _)).val = some (resLFo1 _ _)
  unfold encLFo1 resLFo1
  rw [evLFo]
  simp only [preLFo1] at hpre
  have hx : ts.length ≤ 9223372036854775807 := by simpa using (okA_sl (hok _ (List.mem_cons_of_mem _ (List.mem_cons_self ..)))).1
  simp only [unLng, unAwk, unTrd, unFws, unLngw, unTrdw, unFwsw, preLng1, preAwk1, preTrd1, preFws1, unstLFo, unstLFo0, prlLFo, outLFo, etaEnt, etaLst, Option.bind_some, List.length_map, unStrs, unInts, unBools, unEnts, unItms, unTrns, cond_true, cond_false, Bool.and_true, Bool.true_and, hx, List.drop_zero, Nat.zero_le, decide_true, hpre]
  by_cases h0 : F.check l = 0
  · have hr := F.rel_turns ts (F.rel_self h0)
    have hl : F.length l = (F.lenF 0 l.entries, 0) := by simp [F.length, h0]
    obtain ⟨e1, e2⟩ := F.rel_ends hr
    unfold F.endN at e2
    rw [hl, F.relB_iff.2 (F.rel_self h0)]
    simp only [decide_eq_true e1, decide_eq_true e2, bne_self_eq_false, cond_true, cond_false]
  · have hl : F.length l = (0, F.check l) := by simp [F.length, h0]
    have hb : (F.check l != 0) = true := by simp [h0]
    rw [hl]
    simp only [hb, cond_true, beq_self_eq_true]

end M
end Go.Proofs.Ytkfhfjcgegimbaa
