/- What is proved here: a list of all renditions that is right comes back, on plain data (no statement of the seat). -/
import Derived.Test.YtipngpndgniagaaDoorE68
namespace Go.Proofs.YtipngpndgniagaaDoor
open Go Go.RowKit
set_option linter.unusedVariables false
set_option linter.unusedSimpArgs false
set_option maxRecDepth 100000

theorem F.visB_of {b : UInt8} (h1 : 33 ≤ b.toNat) (h2 : b.toNat ≤ 126) : F.visB 33 b = true := by
  unfold F.visB
  rw [decide_eq_false (by omega), decide_eq_false (by omega)]
  rfl

theorem F.vis_of {s : ByteArray} (h : ∀ b ∈ F.bs s, 33 ≤ b.toNat ∧ b.toNat ≤ 126) : F.vis s 33 = true :=
  List.all_eq_true.2 fun b hb => F.visB_of (h b hb).1 (h b hb).2

theorem F.wdB_of {s : ByteArray} (h0 : s.size ≠ 0) (h : ∀ b ∈ F.bs s, 33 ≤ b.toNat ∧ b.toNat ≤ 126) : F.wdB s = true := by
  unfold F.wdB
  rw [decide_eq_true h0, F.vis_of h]
  rfl

theorem F.name_wd {s : ByteArray} (h : F.isName s = true) : F.wdB s = true := by
  unfold F.isName at h
  simp only [Bool.and_eq_true, decide_eq_true_eq] at h
  refine F.wdB_of h.1.1.1 fun b hb => ?_
  have := List.all_eq_true.1 h.2 b hb
  unfold F.nameB F.letter F.digit at this
  simp only [Bool.and_eq_true, Bool.or_eq_true, decide_eq_true_eq] at this
  omega

theorem F.name_dash {s : ByteArray} (h : F.isName s = true) : F.undash s = s ∧ F.dash s = s := by
  unfold F.isName at h
  simp only [Bool.and_eq_true, decide_eq_true_eq] at h
  have hl := h.1.2
  constructor
  · unfold F.undash
    cases h1 : F.seq s ⟨⟨[45]⟩⟩
    · rfl
    · rw [F.seq_iff] at h1
      rw [h1] at hl
      exact absurd hl (by decide)
  · unfold F.dash
    cases h1 : F.seq s ⟨⟨[]⟩⟩
    · rfl
    · rw [F.seq_iff] at h1
      rw [h1] at hl
      exact absurd hl (by decide)

theorem F.lang_wd {s : ByteArray} (h : F.lang s = true) : F.wdB s = true := by
  unfold F.lang F.out at h
  simp only [Bool.and_eq_true, Bool.not_eq_true', Bool.or_eq_false_iff, decide_eq_false_iff_not] at h
  refine F.wdB_of (by omega) fun b hb => ?_
  have := List.all_eq_true.1 h.1 b hb
  unfold F.langB F.letter at this
  simp only [Bool.and_eq_true, Bool.or_eq_true, decide_eq_true_eq] at this
  omega

theorem F.num_wd {s : ByteArray} {k : Int} (h : F.numOk s k = true) : F.wdB s = true := by
  unfold F.numOk at h
  simp only [Bool.and_eq_true, decide_eq_true_eq] at h
  refine F.wdB_of h.1.1.1 fun b hb => ?_
  have := List.all_eq_true.1 h.2 b hb
  unfold F.dgB at this
  simp only [Bool.and_eq_true, decide_eq_true_eq] at this
  omega

theorem F.uri_g {s : ByteArray} (h : F.uriFault s = 0) : F.uriL s = true ∧ F.vis s 33 = true := by
  unfold F.uriFault at h
  split at h
  · cases h
  · rename_i hh
    simp only [F.out, Bool.or_eq_true, decide_eq_true_eq, not_or, Bool.not_eq_true'] at hh
    refine ⟨?_, by simpa using hh.2⟩
    unfold F.uriL
    rw [decide_eq_true (by omega : s.size ≠ 0), decide_eq_false hh.1.2]
    rfl

theorem F.sndF_g {s : Snd} {l : List Snd} (h : F.sndF s l = 0) : F.isName s.group = true ∧ F.isName s.name = true ∧ F.lang s.lang = true ∧ F.uriFault s.uri = 0 := by
  unfold F.sndF at h
  cases h1 : F.isName s.group
  · rw [h1] at h; cases h
  cases h2 : F.isName s.name
  · rw [h1, h2] at h; cases h
  cases h3 : l.any (F.sndTw s)
  · cases h4 : F.lang s.lang
    · rw [h1, h2, h3, h4] at h; cases h
    · rw [h1, h2, h3, h4] at h
      simp only [Bool.not_true, Bool.or_self, cond_false] at h
      cases h5 : (s.dflt && l.any (F.sndDf s))
      · rw [h5] at h
        exact ⟨rfl, rfl, rfl, h⟩
      · rw [h5] at h; cases h
  · rw [h1, h2, h3] at h; cases h

theorem F.strmF_g {s : Strm} {l : List Strm} {m : List Snd} (h : F.strmF s l m = 0) : F.isName s.name = true ∧ F.uriFault s.uri = 0 ∧ (F.seq s.sound ⟨⟨[]⟩⟩ = true ∨ ∃ o ∈ m, o.group = s.sound) := by
  unfold F.strmF at h
  cases h1 : F.isName s.name
  · rw [h1] at h; cases h
  rw [h1] at h
  cases h2 : l.any fun o => F.seq o.name s.name
  rotate_left
  · rw [h2] at h; cases h
  rw [h2] at h
  cases h3 : F.uriFault s.uri != 0
  rotate_left
  · rw [h3] at h; cases h
  rw [h3] at h
  cases h4 : F.out s.mean 1 10000000000 || F.out s.peak s.mean 10000000000
  rotate_left
  · rw [h4] at h; cases h
  rw [h4] at h
  cases h5 : F.out s.width 0 20000 || F.out s.height 0 20000 || ((s.width == 0) != (s.height == 0))
  rotate_left
  · rw [h5] at h; cases h
  rw [h5] at h
  refine ⟨rfl, by simpa using h3, ?_⟩
  unfold F.nonE at h
  cases h9 : F.seq s.sound ⟨#[]⟩
  · right
    rw [h9] at h
    cases h10 : m.any fun o => F.seq o.group s.sound
    · rw [h10] at h; cases h
    · obtain ⟨o, ho, he⟩ := List.any_eq_true.1 h10
      exact ⟨o, ho, F.seq_iff.1 he⟩
  · exact .inl rfl

theorem F.chkM_g {m : Mas} (h : F.chkM m = 0) : (∀ s ∈ m.sounds, ∃ l, F.sndF s l = 0) ∧ (∀ s ∈ m.streams, ∃ l, F.strmF s l m.sounds = 0) := by
  have hz : ∀ {α : Type} (g : α → Int) (l : List α), M.ffI g l = 0 → ∀ y ∈ l, g y = 0 := by
    intro α g l
    induction l with
    | nil => intro _ y hy; cases hy
    | cons x l ih =>
      intro h y hy
      simp only [M.ffI] at h
      split at h
      · rename_i h0
        rcases List.mem_cons.1 hy with rfl | hy
        · exact h0
        · exact ih h y hy
      · exact absurd h ‹_›
  have hin : ∀ {α : Type} (l : List α) (y : α), y ∈ l → ∃ k, (y, k) ∈ l.zipIdx := by
    intro α l y hy
    obtain ⟨k, hk, e⟩ := List.getElem_of_mem hy
    refine ⟨k, List.mem_of_getElem? (i := k) ?_⟩
    rw [List.getElem?_zipIdx, List.getElem?_eq_getElem hk, e]
    simp
  unfold F.chkM at h
  cases h1 : decide (50 < m.streams.length) || decide (50 < m.sounds.length)
  rotate_left
  · rw [h1] at h; cases h
  rw [h1] at h
  cases h3 : F.sndsF m.sounds != 0
  · rw [h3] at h
    have h4 : F.sndsF m.sounds = 0 := by simpa using h3
    refine ⟨fun s hs => ?_, fun s hss => ?_⟩
    · obtain ⟨k, hk⟩ := hin _ _ hs
      exact ⟨_, hz _ _ h4 _ hk⟩
    · obtain ⟨k, hk⟩ := hin _ _ hss
      exact ⟨_, hz _ _ h _ hk⟩
  · rw [h3] at h
    simp only [cond_true, cond_false] at h
    rw [h] at h3; cases h3

theorem F.sndG_of {s : Snd} {l : List Snd} (h : F.sndF s l = 0) : F.SndG s := by
  obtain ⟨h1, h2, h3, h4⟩ := F.sndF_g h
  obtain ⟨u1, u2⟩ := F.uri_g h4
  have k1 : F.wdB F.kSnd = true := by decide
  have k2 : F.wdB F.kDef = true := by decide
  refine ⟨?_, u1, u2⟩
  unfold F.sndWs F.wOk
  cases s.dflt <;> simp only [cond_true, cond_false, List.all_cons, List.all_nil, k1, k2, F.name_wd h1, F.name_wd h2, F.lang_wd h3] <;> rfl

theorem F.strG_of {s : Strm} {l : List Strm} {m : List Snd} (h : F.strmF s l m = 0) (hm : ∀ o ∈ m, F.isName o.group = true)
    (b1 : 1 ≤ s.mean ∧ s.mean ≤ 10000000000) (b2 : 1 ≤ s.peak ∧ s.peak ≤ 10000000000) (b3 : 0 ≤ s.width ∧ s.width ≤ 20000) (b4 : 0 ≤ s.height ∧ s.height ≤ 20000) : F.StrG s := by
  obtain ⟨h1, h2, h3⟩ := F.strmF_g h
  obtain ⟨u1, u2⟩ := F.uri_g h2
  have k1 : F.wdB F.kStr = true := by decide
  obtain ⟨n1, v1⟩ := F.num_itoa (n := s.mean) (by omega) (by omega)
  obtain ⟨n2, v2⟩ := F.num_itoa (n := s.peak) (by omega) (by omega)
  obtain ⟨n3, v3⟩ := F.num_itoa (n := s.width) (by omega) (by omega)
  obtain ⟨n4, v4⟩ := F.num_itoa (n := s.height) (by omega) (by omega)
  have hd : F.wdB (F.dash s.sound) = true ∧ F.undash (F.dash s.sound) = s.sound := by
    rcases h3 with h3 | ⟨o, ho, he⟩
    · rw [F.seq_iff] at h3
      rw [h3]
      unfold F.dash
      rw [F.seq_refl, cond_true]
      refine ⟨by decide, ?_⟩
      unfold F.undash
      rw [F.seq_refl]
      rfl
    · have hn := hm o ho
      rw [he] at hn
      obtain ⟨d1, d2⟩ := F.name_dash hn
      rw [d2]
      exact ⟨F.name_wd hn, d1⟩
  refine ⟨?_, u1, u2, ?_, ?_⟩
  · unfold F.strWs F.wOk
    simp only [List.all_cons, List.all_nil, k1, F.name_wd h1, F.num_wd n1, F.num_wd n2, F.num_wd n3, F.num_wd n4, hd.1]
    rfl
  · show (F.numOk (F.itoa s.mean) 11 && F.numOk (F.itoa s.peak) 11 && F.numOk (F.itoa s.width) 11 && F.numOk (F.itoa s.height) 11) = true
    rw [n1, n2, n3, n4]; rfl
  · show (⟨s.name, s.uri, F.numV (F.itoa s.mean) 11, F.numV (F.itoa s.peak) 11, F.numV (F.itoa s.width) 11, F.numV (F.itoa s.height) 11, F.undash (F.dash s.sound)⟩ : Strm) = s
    rw [v1, v2, v3, v4, hd.2]

theorem F.mas_line {s : ByteArray} {r : List UInt8} (h : F.bs s = F.bs F.kMas ++ 10 :: r) : F.cutF s F.nl = true ∧ F.seq (F.cutH s F.nl) F.kMas = true ∧ F.bs (F.cutT s F.nl) = r := by
  obtain ⟨c1, c2, c3⟩ := F.cut_line (by decide) h
  exact ⟨c1, F.seq_iff.2 (F.bsx c2), c3⟩

/-- What was written is read as it was. -/
theorem F.mas_rd {m : Mas} (h : (F.mtext m).2 = 0) : F.rdMas (F.mtext m).1 = (m, 0, 0) := by
  unfold F.mtext at h ⊢
  cases hc : F.chkM m != 0
  rotate_left
  · rw [hc] at h
    simp only [cond_true] at h
    rw [h] at hc; cases hc
  have hc0 : F.chkM m = 0 := by simpa using hc
  rw [hc] at h
  cases hb : F.big (F.masT m)
  rotate_left
  · rw [hb] at h; cases h
  simp only [cond_false]
  obtain ⟨_, _, _, q4⟩ := F.chkM_ok hc0
  obtain ⟨g1, g2⟩ := F.chkM_g hc0
  have s1 : ∀ x ∈ m.sounds, F.SndG x := fun x hx => by
    obtain ⟨l, hl⟩ := g1 x hx
    exact F.sndG_of hl
  have s2 : ∀ x ∈ m.streams, F.StrG x := fun x hx => by
    obtain ⟨l, hl⟩ := g2 x hx
    obtain ⟨_, _, _, b1, b2, b3, b4⟩ := q4 x hx
    refine F.strG_of hl (fun o ho => ?_) b1 b2 b3 b4
    obtain ⟨l', hl'⟩ := g1 o ho
    exact (F.sndF_g hl').1
  obtain ⟨c1, c2, c3⟩ := F.mas_line (F.masT_bs m)
  obtain ⟨n', hr⟩ := F.rd_snds m.streams s2 m.sounds (F.cutT (F.masT m) F.nl) 1 [] s1 c3
  unfold F.rdMas
  have hb' : decide (500000 < (F.masT m).size) = false := hb
  have hr' : F.rdS (F.cutT (F.masT m) F.nl) 1 F.noMas = (true, n', m) := hr
  rw [hb', c1, c2, hr', hc]
  rfl

/-- What was read is written as it was. -/
theorem F.mas_back {s : ByteArray} (h : (F.rdMas s).2.2 = 0) : F.mtext (F.rdMas s).1 = (s, 0) := by
  unfold F.rdMas at h ⊢
  cases hb : decide (500000 < s.size)
  rotate_left
  · rw [hb] at h; cases h
  rw [hb] at h
  cases hq : F.cutF s F.nl && F.seq (F.cutH s F.nl) F.kMas
  · rw [hq] at h; cases h
  rw [hq] at h
  cases hr : (F.rdS (F.cutT s F.nl) 1 F.noMas).1
  · rw [hr] at h; cases h
  rw [hr] at h
  cases hc : F.chkM (F.rdS (F.cutT s F.nl) 1 F.noMas).2.2 != 0
  rotate_left
  · rw [hc] at h
    simp only [Bool.not_true, cond_true, cond_false] at h
    rw [h] at hc; cases hc
  simp only [Bool.not_true, cond_true, cond_false]
  obtain ⟨st, so, e1, e2, _⟩ := F.rd_back _ _ 1 F.noMas (Nat.le_refl _) hr
  rw [Bool.and_eq_true, F.seq_iff] at hq
  have hm : F.masT (F.rdS (F.cutT s F.nl) 1 F.noMas).2.2 = s := F.bsx (by
    rw [F.masT_bs, F.cut_back hq.1, hq.2, e1, e2]
    rfl)
  unfold F.mtext
  have hz : F.big s = false := hb
  rw [hc, hm, hz]
  rfl

theorem F.mas_none {s : ByteArray} (h : (F.rdMas s).2.2 ≠ 0) : (F.rdMas s).1 = F.noMas := by
  unfold F.rdMas at h ⊢
  cases hb : decide (500000 < s.size)
  rotate_left
  · rfl
  rw [hb] at h
  cases hq : F.cutF s F.nl && F.seq (F.cutH s F.nl) F.kMas
  · rfl
  rw [hq] at h
  cases hr : (F.rdS (F.cutT s F.nl) 1 F.noMas).1
  · rfl
  rw [hr] at h
  cases hc : F.chkM (F.rdS (F.cutT s F.nl) 1 F.noMas).2.2 != 0
  · rw [hc] at h; exact absurd rfl h
  · rfl

end Go.Proofs.YtipngpndgniagaaDoor
