/- What is proved here: names of keys differ as their periods do, on plain data (no statement of the seat). -/
import Derived.Test.YtlemjphdhapfpaaGreatDoorD70
namespace Go.Proofs.YtlemjphdhapfpaaGreatDoor
open Go Go.RowKit
set_option linter.unusedVariables false
set_option linter.unusedSimpArgs false

theorem F.cmpI_mem {xs : List Int} {y : Int} : y ∈ F.cmpI xs ↔ y ∈ xs := by
  refine ⟨M.mem_cmpI, fun h => ?_⟩
  -- the first place of y
  obtain ⟨i, hi, e, hmin⟩ : ∃ i, i < xs.length ∧ xs.toArray[i]! = y ∧ ∀ j, j < i → xs.toArray[j]! ≠ y := by
    obtain ⟨k, hk⟩ := List.getElem?_of_mem h
    have hkl := (List.getElem?_eq_some_iff.1 hk).1
    have hky : xs.toArray[k]! = y := M.getD_ints xs k y hk
    clear hk
    induction k using Nat.strongRecOn with
    | ind k ih =>
      by_cases hj : ∃ j, j < k ∧ xs.toArray[j]! = y
      · obtain ⟨j, h1, h2⟩ := hj
        exact ih j h1 (by omega) h2
      · exact ⟨k, hkl, hky, fun j h1 h2 => hj ⟨j, h1, h2⟩⟩
  unfold F.cmpI Lib.compact Lib.compactUpTo
  refine List.mem_map.2 ⟨i, List.mem_filter.2 ⟨List.mem_range.2 hi, ?_⟩, e⟩
  unfold Lib.keeps
  refine decide_eq_true ?_
  rcases Nat.eq_zero_or_pos i with h0 | h0
  · exact .inl h0
  · exact .inr fun e2 => hmin (i - 1) (by omega) (by rw [← e2]; exact e)

theorem F.cmpI_lt {xs : List Int} (h : xs.Pairwise (· ≤ ·)) : (F.cmpI xs).Pairwise (· < ·) := by
  have hle : ∀ i j, i ≤ j → j < xs.length → xs.toArray[i]! ≤ xs.toArray[j]! := fun i j hij hj => by
    rw [getElem!_pos _ i (by simp; omega), getElem!_pos _ j (by simpa using hj)]
    rcases Nat.lt_or_ge i j with hlt | hge
    · simpa using List.pairwise_iff_getElem.1 h i j (by omega) hj hlt
    · have : i = j := by omega
      subst this; exact Int.le_refl _
  unfold F.cmpI Lib.compact Lib.compactUpTo
  rw [List.pairwise_map]
  refine List.Pairwise.imp_of_mem ?_ (List.Pairwise.filter _ List.pairwise_lt_range)
  intro i j hi hj hij
  have hj1 := List.mem_range.1 (List.mem_filter.1 hj).1
  have hj2 := (List.mem_filter.1 hj).2
  unfold Lib.keeps at hj2
  have hj2 := of_decide_eq_true hj2
  rcases hj2 with h0 | hne
  · omega
  · have a1 := hle i (j - 1) (by omega) (by omega)
    have a2 := hle (j - 1) j (by omega) hj1
    have := Ne.symm hne
    omega

/-- The number that digits say. -/
def F.dval (l : List UInt8) : Nat := l.foldl (fun a b => 10 * a + (b.toNat - 48)) 0

theorem F.dval_dec (u : Nat) : F.dval (Lib.decDigits u) = u := by
  induction u using Nat.strongRecOn with
  | ind u ih =>
    have d1 : ∀ i : Nat, i < 10 → (UInt8.ofNat (48 + i)).toNat - 48 = i := fun i hi => by
      rw [UInt8.toNat_ofNat']; omega
    rw [Lib.decDigits]
    split
    · rename_i h
      simp only [F.dval, List.foldl_cons, List.foldl_nil, d1 u h]
      omega
    · rename_i h
      have := ih (u / 10) (by omega)
      unfold F.dval at this ⊢
      rw [List.foldl_append, this]
      simp only [List.foldl_cons, List.foldl_nil, d1 (u % 10) (by omega)]
      omega

theorem F.bsx {a b : ByteArray} (h : F.bs a = F.bs b) : a = b := by
  cases a with
  | mk a => cases b with
    | mk b => cases a; cases b; simp [F.bs] at h; rw [h]

theorem F.bs_app (a b : ByteArray) : F.bs (a ++ b) = F.bs a ++ F.bs b := by simp [F.bs]

theorem F.kName_inj {a b : Int} (ha : 0 ≤ a) (hb : 0 ≤ b) (h : F.kName a = F.kName b) : a = b := by
  have h := congrArg F.bs h
  unfold F.kName at h
  rw [F.bs_app, F.bs_app] at h
  have h := List.append_cancel_left h
  have h : Lib.itoa a = Lib.itoa b := by simpa [F.bs, F.itoa] using h
  unfold Lib.itoa at h
  rw [if_neg (by omega), if_neg (by omega)] at h
  have h := congrArg F.dval h
  rw [F.dval_dec, F.dval_dec] at h
  omega

theorem F.kName_k (p : Int) : F.hasPrefix (F.kName p) ⟨⟨[107]⟩⟩ = true := by
  have e : (F.kName p).extract 0 1 = ⟨⟨[107]⟩⟩ := F.bsx (by unfold F.kName; simp [F.bs])
  have hs : 1 ≤ (F.kName p).size := by rw [← F.bs_len, F.kName, F.bs_app]; simp [F.bs]
  unfold F.hasPrefix
  rw [show ByteArray.size ⟨⟨[107]⟩⟩ = 1 from rfl, e, F.seq_refl, decide_eq_true hs]
  rfl

/-- A string is among some. -/
def F.hasS (x : ByteArray) (l : List ByteArray) : Bool := l.any (F.seq x)

theorem F.hasS_iff {x : ByteArray} {l : List ByteArray} : F.hasS x l = true ↔ x ∈ l := by
  unfold F.hasS
  rw [List.any_eq_true]
  constructor
  · rintro ⟨y, hy, h⟩
    rw [F.seq_iff.1 h]; exact hy
  · exact fun h => ⟨x, h, F.seq_refl x⟩

def F.addS (l : List ByteArray) (e : Ent) : List ByteArray := bif !F.hasS e.key l then l ++ [e.key] else l

def F.seenF (acc : List ByteArray) (es : List Ent) : List ByteArray := es.foldl F.addS acc

theorem F.addS_len (l : List ByteArray) (e : Ent) : (F.addS l e).length ≤ l.length + 1 := by
  unfold F.addS
  cases F.hasS e.key l <;> simp

theorem F.seenF_spec : ∀ (es : List Ent) (acc : List ByteArray), acc.Nodup → (F.seenF acc es).Nodup ∧ ∀ x, x ∈ F.seenF acc es ↔ x ∈ acc ∨ x ∈ es.map (·.key)
  | [], acc, h => ⟨h, fun x => by simp [F.seenF]⟩
  | e :: es, acc, h => by
    have h2 : (F.addS acc e).Nodup ∧ ∀ x, x ∈ F.addS acc e ↔ x ∈ acc ∨ x = e.key := by
      unfold F.addS
      cases hc : F.hasS e.key acc
      · have hn : e.key ∉ acc := fun hm => by rw [F.hasS_iff.2 hm] at hc; cases hc
        refine ⟨?_, fun x => by simp⟩
        show (acc ++ [e.key]).Nodup
        rw [List.nodup_append]
        exact ⟨h, by simp, fun a ha b hb => by simp at hb; subst hb; exact fun e2 => hn (e2 ▸ ha)⟩
      · have hm := F.hasS_iff.1 hc
        refine ⟨h, fun x => ⟨.inl, fun hx => ?_⟩⟩
        rcases hx with hx | rfl
        · exact hx
        · exact hm
    obtain ⟨h3, h4⟩ := F.seenF_spec es (F.addS acc e) h2.1
    refine ⟨h3, fun x => ?_⟩
    have e1 : F.seenF acc (e :: es) = F.seenF (F.addS acc e) es := rfl
    rw [e1, h4, h2.2, List.map_cons, List.mem_cons, or_assoc]

theorem F.kEs_len (r : Rot) : ∀ (es : List Ent) (bs : List Int), es.length = bs.length → (F.kEs r es bs).length = es.length
  | [], [], _ => rfl
  | e :: es, b :: bs, h => by simp only [F.kEs, List.length_cons]; rw [F.kEs_len r es bs (by simpa using h)]

theorem F.kEs_keys (r : Rot) : ∀ (es : List Ent) (bs : List Int), es.length = bs.length → (F.kEs r es bs).map (·.key) = (F.pers r bs).map F.kName
  | [], [], _ => rfl
  | e :: es, b :: bs, h => by
    have := F.kEs_keys r es bs (by simpa using h)
    simp only [F.kEs, F.pers, List.map_cons] at this ⊢
    rw [this]; rfl

theorem F.srtI_pw (xs : List Int) : (F.srtI xs).Pairwise (· ≤ ·) := by
  have := List.pairwise_mergeSort (le := fun x y : Int => decide (x ≤ y)) (by intro a b c h1 h2; simp at *; omega) (by intro a b; simp; omega) xs
  exact this.imp fun h => by simpa using h

/-- As many names as periods. -/
theorem F.seen_len (r : Rot) (es : List Ent) (bs : List Int) (h : es.length = bs.length) : (F.seenF [] (F.kEs r es bs)).length = (F.cmpI (F.srtI (F.pers r bs))).length := by
  obtain ⟨h1, h2⟩ := F.seenF_spec (F.kEs r es bs) [] List.nodup_nil
  have hp : ∀ p ∈ F.cmpI (F.srtI (F.pers r bs)), 0 ≤ p := fun p hp => by
    have := (List.mergeSort_perm ..).subset (F.cmpI_mem.1 hp)
    obtain ⟨b, _, rfl⟩ := List.mem_map.1 this
    exact (M.perAt_bd r b).1
  have h3 : ((F.cmpI (F.srtI (F.pers r bs))).map F.kName).Nodup := by
    refine List.pairwise_map.2 ((F.cmpI_lt (F.srtI_pw _)).imp_of_mem fun ha hb hab he => ?_)
    have := F.kName_inj (hp _ ha) (hp _ hb) he
    omega
  have h4 : (F.seenF [] (F.kEs r es bs)).Perm ((F.cmpI (F.srtI (F.pers r bs))).map F.kName) := by
    refine (List.perm_ext_iff_of_nodup h1 h3).2 fun x => ?_
    rw [h2, F.kEs_keys r es bs h]
    simp only [List.not_mem_nil, false_or, List.mem_map, F.cmpI_mem]
    constructor
    · rintro ⟨p, hp, rfl⟩; exact ⟨p, (List.mergeSort_perm ..).mem_iff.2 hp, rfl⟩
    · rintro ⟨p, hp, rfl⟩; exact ⟨p, (List.mergeSort_perm ..).mem_iff.1 hp, rfl⟩
  rw [h4.length_eq, List.length_map]

end Go.Proofs.YtlemjphdhapfpaaGreatDoor
