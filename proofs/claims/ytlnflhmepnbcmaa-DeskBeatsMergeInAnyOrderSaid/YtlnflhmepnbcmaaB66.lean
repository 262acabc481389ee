/- What is proved here: the contract of slices.Insert of one element (no statement of the seat). -/
import Derived.Test.YtlnflhmepnbcmaaB65
namespace Go.Proofs.Ytlnflhmepnbcmaa
open Go Go.RowKit
set_option linter.unusedVariables false
set_option linter.unusedSimpArgs false
set_option maxHeartbeats 1000000

def F.insAt {α : Type} (i : Nat) (c : α) (xs : List α) : List α := xs.take i ++ c :: xs.drop i

namespace K

theorem insAt_lt {α : Type} {i q : Nat} {c : α} {xs : List α} (h : i ≤ xs.length) (hq : q < i) : (F.insAt i c xs)[q]? = xs[q]? := by
  unfold F.insAt
  rw [List.getElem?_append_left (by rw [List.length_take]; omega), List.getElem?_take, if_pos hq]

theorem insAt_eq {α : Type} {i : Nat} {c : α} {xs : List α} (h : i ≤ xs.length) : (F.insAt i c xs)[i]? = some c := by
  unfold F.insAt
  rw [List.getElem?_append_right (by rw [List.length_take]; omega), List.length_take, show i - min i xs.length = 0 by omega]
  rfl

theorem insAt_gt {α : Type} {i q : Nat} {c : α} {xs : List α} (h : i ≤ xs.length) (hq : i < q) : (F.insAt i c xs)[q]? = xs[q - 1]? := by
  unfold F.insAt
  rw [List.getElem?_append_right (by rw [List.length_take]; omega), List.length_take, show q - min i xs.length = (q - i - 1) + 1 by omega, List.getElem?_cons_succ, List.getElem?_drop]
  congr 1
  omega

theorem insAt_len {α : Type} {i : Nat} {c : α} {xs : List α} (h : i ≤ xs.length) : (F.insAt i c xs).length = xs.length + 1 := by
  unfold F.insAt
  rw [List.length_append, List.length_cons, List.length_take, List.length_drop]
  omega

end K

namespace M

def encInsO1 (xs : List Beat) (i : Nat) (c : Beat) : List AV × Heap := ([.own 900, vI i, .own 901], [(901, ⟨false, 29, 5, [eBeat c]⟩), (900, ⟨false, 29, 5, xs.map eBeat⟩)])

def encInsO (a : (List Beat) × Nat × Beat) : List AV × Heap := encInsO1 a.1 a.2.1 a.2.2

theorem encInsO_inj (a a' : (List Beat) × Nat × Beat) (h : encInsO a = encInsO a') : a = a' := by
  simp only [encInsO, encInsO1] at h
  try simp [strs_inj, ints_inj, bools_inj, eBeats_inj, eBeat_iff, eL_eBeats_inj, eSpans_inj, eSpan_iff, eHoles_inj, eHole_iff, eLevels_inj, eLevel_iff, eFigss_inj, eFigs_iff, eRatios_inj, eRatio_iff, eReps_inj, eRep_iff, eStays_inj, eStay_iff] at h
  grind

theorem unInsO (xs : List Beat) (i : Nat) (c : Beat) : unenc encInsO (([.own 900, (vI (↑i : Int)), .own 901], [(901, Blk.mk false 29 5 [[(vS c.session), (vI c.no), (vI c.time), (vI c.state), (vI c.rate)]]), (900, Blk.mk false 29 5 (List.map
  eBeat xs))])) = some (xs, i, c) := unenc_of encInsO_inj (xs, i, c) rfl

theorem unInsOw (xs : List Beat) (i : Nat) (c_session : ByteArray) (c_no : Int) (c_time : Int) (c_state : Int) (c_rate : Int) : unenc encInsO (([.own 900, (vI (↑i : Int)), .own 901], [(901, Blk.mk false 29 5 [[(vS c_session), (vI c_no), (vI c_time), (vI c_state), (vI c_rate)]]), (900, Blk.mk false 29 5 (List.map
  eBeat xs))])) = some (xs, i, (Beat.mk c_session c_no c_time c_state c_rate)) := unenc_of encInsO_inj (xs, i, (Beat.mk c_session c_no c_time c_state c_rate)) rfl

def resInsO1 (xs : List Beat) (i : Nat) (c : Beat) : AV × Heap × List Nat := (.own 900, [(901, ⟨false, 29, 5, [eBeat c]⟩), (900, ⟨false, 29, 5, (F.insAt i c xs).map eBeat⟩)], [900])

def preInsO1 (xs : List Beat) (i : Nat) (c : Beat) : Bool := decide (i ≤ xs.length ∧ xs.length ≤ 100000)

noncomputable def oInsO : OrcH := orcH 22 encInsO (fun a => preInsO1 a.1 a.2.1 a.2.2) fun a => resInsO1 a.1 a.2.1 a.2.2

noncomputable def enInsE : Env := envH ty noG lks [] [] [900, 12] []

theorem enInsE_ok : EnvOK Try.prog enInsE := by
  refine envH_ok lks_ok ty_ok ?_ ?_
  · simp
  · simp

theorem evInsE (xs : List Beat) (c : Beat) : (runH enInsE [900] Try.f22 [.own 900, vI xs.length, .own 901] [(901, ⟨false, 29, 5, [eBeat c]⟩), (900, ⟨false, 29, 5, xs.map eBeat⟩)]).val =
  bif Nat.ble (List.length xs) (List.length (List.map eBeat xs)) && Nat.ble (List.length (List.map eBeat xs)) (List.length (List.map eBeat xs)) then bif (↑(List.length xs) :
  Int) == (↑(List.length (List.map eBeat xs)) : Int) then bif Nat.ble ((List.length (List.map eBeat xs) + (1 : Nat)) * (48 : Nat)) (140737488355328 : Nat) && true then some
  (.own 900, [(901, Blk.mk false 29 5 [[(vS c.session), (vI c.no), (vI c.time), (vI c.state), (vI c.rate)]]), (900, Blk.mk false 29 5 (List.map eBeat xs ++ [[(vS c.session),
  (vI c.no), (vI c.time), (vI c.state), (vI c.rate)]]))], [(900 : Nat)]) else none else none else none := (runHR_val).symm.trans (by kernel_rfl)

theorem rv_ownk2 {w : World} {S : Nat → Prop} {β : Nat → Option BI} {k : Nat} {v : Value} (h : RV w S β (.own k) v) : ∃ x, β k = some x ∧ (x.real = true → v = .slice (some ⟨x.b, 0, none⟩) x.len x.cap) ∧ (x.real = false → ∃ A, v = .slice A 0 0) := h

theorem enc_len (c : Beat) : (eBeat c).length = 5 := rfl

/-- The cells of a block of rows. -/
theorem rows_cells {G : Nat → Option GR} {B : Nat → Prop} {w : World} {S : Nat → Prop} {β : Nat → Option BI} {h : Heap} {k : Nat} {xs : List Beat} {X : BI} (inv : InvG G B w S β h) (hX : β k = some X) (hk : mget h k = some ⟨false, 29, 5, xs.map eBeat⟩) (hne : xs ≠ []) :
    X.real = true ∧ ∃ cur ty, w.heap[X.b]? = some (.cells cur ty (0, 0)) ∧ cur.size = X.cap * 5 ∧ X.len = xs.length ∧ X.len ≤ X.cap ∧ X.cap ≤ 9223372036854775807 ∧ X.size = 5 ∧ ty = 29 ∧
      ∀ (i : Nat) (x : Beat), xs[i]? = some x → ∀ (j : Nat) (a : AV), (eBeat x)[j]? = some a → ∃ v, cur[i * 5 + j]? = some v ∧ R0 w S a v := by
  obtain ⟨bl, hb, h3, h4⟩ := inv.dom k X hX
  rw [hk] at hb
  cases hb
  have hr : X.real = true := by
    cases hr : X.real
    · have := (h4 hr).1
      exact absurd (by simpa using this) hne
    · rfl
  obtain ⟨cs, ty, c1, c2, c3, c4, c5, c6, c7, c8⟩ := h3 hr
  obtain ⟨e1, e2⟩ := c6 rfl
  have e2 : X.size = 5 := e2
  rw [e2] at c2
  refine ⟨hr, cs, ty, c1, c2, by rw [← c3]; simp, c4, c5, e2, e1, fun i x hx j a hj => ?_⟩
  obtain ⟨v, hv, hrv⟩ := (c8 i (eBeat x) (by simp [hx])).2 j a hj
  rw [e2] at hv
  exact ⟨v, hv, hrv⟩

/-- Each cell of the elements is one cell. -/
theorem rows_one {w : World} {S : Nat → Prop} {cur : Array Value} {xs : List Beat} (h : ∀ (i : Nat) (x : Beat), xs[i]? = some x → ∀ (j : Nat) (a : AV), (eBeat x)[j]? = some a → ∃ v, cur[i * 5 + j]? = some v ∧ R0 w S a v) :
    ∀ (q : Nat) v, q < xs.length * 5 → cur[q]? = some v → v.oneCell' = true := by
  intro q v hq hv
  have h1 : q / 5 < xs.length := by omega
  have h2 : q % 5 < 5 := Nat.mod_lt _ (by decide)
  obtain ⟨u, hu, hr⟩ := h (q / 5) _ (List.getElem?_eq_getElem h1) (q % 5) _ (List.getElem?_eq_getElem (by rw [enc_len]; exact h2))
  rw [show q / 5 * 5 + q % 5 = q by omega, hv] at hu
  cases hu
  exact R0.one hr

/-- What insertion leaves in the cells. -/
def InsAt (i n : Nat) (cur news R : List Value) : Prop := ∀ q, q < (n + 1) * 5 → R[q]? = if q < i * 5 then cur[q]? else if q < i * 5 + 5 then news[q - i * 5]? else cur[q - 5]?

theorem insAt_shift {i n : Nat} {cur news : List Value} (hi : i < n) (hn : news.length = 5) (hc : (n + 1) * 5 ≤ cur.length) : (insCells i n cur news).length = cur.length ∧ InsAt i n cur news (insCells i n cur news) := by
  have hcl : ((cur.drop (i * 5)).take ((n - i) * 5)).length = (n - i) * 5 := by rw [List.length_take, List.length_drop]; omega
  have e : insCells i n cur news = K.put (i * 5) news (K.put ((i + 1) * 5) ((cur.drop (i * 5)).take ((n - i) * 5)) cur) := by
    unfold insCells K.put
    rw [hcl, hn]
  have l1 := K.put_len (o := (i + 1) * 5) (xs := (cur.drop (i * 5)).take ((n - i) * 5)) (R := cur) (by rw [hcl]; omega)
  have l2 := K.put_len (o := i * 5) (xs := news) (R := K.put ((i + 1) * 5) ((cur.drop (i * 5)).take ((n - i) * 5)) cur) (by rw [l1, hn]; omega)
  rw [e]
  refine ⟨l2.trans l1, fun q hq => ?_⟩
  rw [K.put_at (by rw [l1, hn]; omega), K.put_at (by rw [hcl]; omega), hn, hcl]
  by_cases h1 : q < i * 5
  · rw [if_pos h1, if_pos h1, if_pos (by omega)]
  · rw [if_neg h1, if_neg h1]
    by_cases h2 : q < i * 5 + 5
    · rw [if_pos h2, if_pos h2]
    · rw [if_neg h2, if_neg h2, if_neg (by omega), if_pos (by omega), List.getElem?_take, if_pos (by omega), List.getElem?_drop]
      congr 1
      omega

theorem insAt_grow {i n : Nat} {cur news R : List Value} (hi : i < n) (hn : news.length = 5) (hc : n * 5 ≤ cur.length) (hR : (n + 1) * 5 ≤ R.length) (ht : R.take (i * 5) = cur.take (i * 5)) :
    (K.put ((i + 1) * 5) ((cur.drop (i * 5)).take ((n - i) * 5)) (K.put (i * 5) news R)).length = R.length ∧ InsAt i n cur news (K.put ((i + 1) * 5) ((cur.drop (i * 5)).take ((n - i) * 5)) (K.put (i * 5) news R)) := by
  have hcl : ((cur.drop (i * 5)).take ((n - i) * 5)).length = (n - i) * 5 := by rw [List.length_take, List.length_drop]; omega
  have l1 := K.put_len (o := i * 5) (xs := news) (R := R) (by rw [hn]; omega)
  have l2 := K.put_len (o := (i + 1) * 5) (xs := (cur.drop (i * 5)).take ((n - i) * 5)) (R := K.put (i * 5) news R) (by rw [hcl, l1]; omega)
  refine ⟨l2.trans l1, fun q hq => ?_⟩
  rw [K.put_at (by rw [hcl, l1]; omega), K.put_at (by rw [hn]; omega), hn, hcl]
  by_cases h1 : q < i * 5
  · have e := congrArg (fun l : List Value => l[q]?) ht
    simp only [List.getElem?_take, if_pos h1] at e
    rw [if_pos (by omega), if_pos h1, if_pos h1, e]
  · rw [if_neg h1, if_neg h1]
    by_cases h2 : q < i * 5 + 5
    · rw [if_pos (by omega), if_pos h2, if_pos h2]
    · rw [if_neg (by omega), if_pos (by omega), if_neg h2, List.getElem?_take, if_pos (by omega), List.getElem?_drop]
      congr 1
      omega

/-- The rows after an insertion. -/
theorem ins_rows {w w' : World} {S : Nat → Prop} {i : Nat} {c : Beat} {xs : List Beat} {cur curv : Array Value} {R news : List Value} (hi : i < xs.length) (hkeep : ∀ b, S b → w'.heap[b]? = w.heap[b]?)
    (h : ∀ (i : Nat) (x : Beat), xs[i]? = some x → ∀ (j : Nat) (a : AV), (eBeat x)[j]? = some a → ∃ v, cur[i * 5 + j]? = some v ∧ R0 w S a v)
    (hv : ∀ (i : Nat) (x : Beat), [c][i]? = some x → ∀ (j : Nat) (a : AV), (eBeat x)[j]? = some a → ∃ v, curv[i * 5 + j]? = some v ∧ R0 w S a v)
    (hn : news = curv.toList.take 5) (hR : InsAt i xs.length cur.toList news R) :
    ∀ (q : Nat) (row : Row), ((F.insAt i c xs).map eBeat)[q]? = some row → row.length = 5 ∧ ∀ (j : Nat) (a : AV), row[j]? = some a → ∃ v, R.toArray[q * 5 + j]? = some v ∧ R0 w' S a v := by
  intro q row hq
  simp only [List.getElem?_map, Option.map_eq_some_iff] at hq
  obtain ⟨x, hx, rfl⟩ := hq
  refine ⟨enc_len x, fun j a hj => ?_⟩
  have hj6 : j < 5 := by have := (List.getElem?_eq_some_iff.1 hj).1; rw [enc_len] at this; exact this
  have hql : q < xs.length + 1 := by have := (List.getElem?_eq_some_iff.1 hx).1; rw [K.insAt_len (by omega)] at this; exact this
  have hRq := hR (q * 5 + j) (by omega)
  rw [List.getElem?_toArray, hRq]
  rcases Nat.lt_trichotomy q i with h1 | h1 | h1
  · rw [K.insAt_lt (by omega) h1] at hx
    obtain ⟨v, hv1, hr⟩ := h q x hx j a hj
    exact ⟨v, by rw [if_pos (by omega)]; simpa using hv1, hr.mono hkeep (fun _ h => h)⟩
  · subst h1
    rw [K.insAt_eq (by omega)] at hx
    cases hx
    obtain ⟨v, hv1, hr⟩ := hv 0 c rfl j a hj
    refine ⟨v, ?_, hr.mono hkeep (fun _ h => h)⟩
    rw [if_neg (by omega), if_pos (by omega), show q * 5 + j - q * 5 = j by omega, hn, List.getElem?_take, if_pos hj6]
    simpa using hv1
  · rw [K.insAt_gt (by omega) h1] at hx
    obtain ⟨v, hv1, hr⟩ := h (q - 1) x hx j a hj
    refine ⟨v, ?_, hr.mono hkeep (fun _ h => h)⟩
    rw [if_neg (by omega), if_neg (by omega), show q * 5 + j - 5 = (q - 1) * 5 + j by omega]
    simpa using hv1

end M
end Go.Proofs.Ytlnflhmepnbcmaa
