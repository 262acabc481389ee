/- What is proved here: a list of all renditions is read as it was written, and its text is the text, on plain data (no statement of the seat). -/
import Derived.Test.YtipngpndgniagaaDoorE67
import Derived.Test.YtipngpndgniagaaDoorE37
import Derived.Test.YtipngpndgniagaaDoorE55
namespace Go.Proofs.YtipngpndgniagaaDoor
open Go Go.RowKit
set_option linter.unusedVariables false
set_option linter.unusedSimpArgs false
set_option maxRecDepth 100000

def F.sndWs (s : Snd) : List ByteArray := bif s.dflt then [F.kSnd, s.group, s.name, s.lang, F.kDef] else [F.kSnd, s.group, s.name, s.lang]

def F.strWs (s : Strm) : List ByteArray := [F.kStr, s.name, F.itoa s.mean, F.itoa s.peak, F.itoa s.width, F.itoa s.height, F.dash s.sound]

def F.sndL (s : Snd) : List UInt8 := F.two (F.sndWs s) s.uri

def F.strL (s : Strm) : List UInt8 := F.two (F.strWs s) s.uri

theorem F.sndT_bs (o : ByteArray) (s : Snd) : F.bs (F.sndT o s) = F.bs o ++ F.sndL s := by
  unfold F.sndT F.sndL F.two F.sndWs
  cases s.dflt <;> simp only [cond_true, cond_false, F.bs_app, F.jl] <;> simp [F.bs, F.kSnd, F.kDef]

theorem F.strT_bs (o : ByteArray) (s : Strm) : F.bs (F.strT o s) = F.bs o ++ F.strL s := by
  unfold F.strT F.strL F.two F.strWs
  simp only [List.foldl_cons, List.foldl_nil, F.numT, F.bs_app, F.jl]
  simp [F.bs, F.kStr]

def F.sndsL (l : List Snd) : List UInt8 := (l.map F.sndL).flatten

def F.strsL (l : List Strm) : List UInt8 := (l.map F.strL).flatten

theorem F.sndsT_bs : ∀ (l : List Snd) (o : ByteArray), F.bs (F.sndsT o l) = F.bs o ++ F.sndsL l
  | [], o => by simp [F.sndsT, F.sndsL]
  | s :: l, o => by
    have := F.sndsT_bs l (F.sndT o s)
    rw [F.sndT_bs] at this
    show F.bs (F.sndsT (F.sndT o s) l) = _
    rw [this]
    simp [F.sndsL]

theorem F.strsT_bs : ∀ (l : List Strm) (o : ByteArray), F.bs (F.strsT o l) = F.bs o ++ F.strsL l
  | [], o => by simp [F.strsT, F.strsL]
  | s :: l, o => by
    have := F.strsT_bs l (F.strT o s)
    rw [F.strT_bs] at this
    show F.bs (F.strsT (F.strT o s) l) = _
    rw [this]
    simp [F.strsL]

theorem F.masT_bs (m : Mas) : F.bs (F.masT m) = F.bs F.kMas ++ 10 :: (F.sndsL m.sounds ++ F.strsL m.streams) := by
  unfold F.masT
  rw [F.strsT_bs, F.sndsT_bs]
  simp [F.bs, F.kMas]

/-- Which sounds and streams can be written. -/
structure F.SndG (s : Snd) : Prop where
  w : F.wOk (F.sndWs s) = true
  u : F.uriL s.uri = true
  v : F.vis s.uri 33 = true

structure F.StrG (s : Strm) : Prop where
  w : F.wOk (F.strWs s) = true
  u : F.uriL s.uri = true
  v : F.vis s.uri 33 = true
  n : F.numsOk (F.strWs s) = true
  r : F.strOf (F.strWs s) s.uri = s

theorem F.sndWs_is (s : Snd) : F.isSnd (F.sndWs s) = true ∧ F.sndOf (F.sndWs s) s.uri = s ∧ F.sndWs s ≠ [] := by
  obtain ⟨a, b, c, d, e⟩ := s
  unfold F.sndWs F.isSnd F.sndOf
  cases d <;> exact ⟨by simp [F.wAt, F.seq_refl], rfl, by simp⟩

theorem F.strWs_is (s : Strm) : F.isSnd (F.strWs s) = false ∧ F.isStr (F.strWs s) = true ∧ F.strWs s ≠ [] := by
  unfold F.strWs F.isSnd F.isStr
  exact ⟨by simp, by simp [F.wAt, F.seq_refl], by simp⟩

theorem F.two_pos (w : List ByteArray) (u : ByteArray) : 0 < (F.two w u).length := by simp [F.two]; omega

theorem F.rd_strs : ∀ (l : List Strm) (s : ByteArray) (n : Int) (m : Mas), (∀ x ∈ l, F.StrG x) → F.bs s = F.strsL l → ∃ n', F.rdS s n m = (true, n', ⟨m.streams ++ l, m.sounds⟩)
  | [], s, n, m, _, h => by
    have h0 : s.size = 0 := by rw [← F.bs_len, h]; rfl
    exact ⟨n, by rw [F.rdS_end h0, List.append_nil]⟩
  | x :: l, s, n, m, hx, h => by
    have g := hx x (List.mem_cons_self ..)
    obtain ⟨i1, i2, i3⟩ := F.strWs_is x
    have h : F.bs s = F.two (F.strWs x) x.uri ++ F.strsL l := h
    obtain ⟨c1, c2, c3, c4, c5⟩ := F.two_cut g.w i3 g.v h
    have h0 : s.size ≠ 0 := by
      rw [← F.bs_len, h, List.length_append]
      have := F.two_pos (F.strWs x) x.uri
      omega
    have hk : F.ptK s m = 2 := by unfold F.ptK; rw [c1, c2, g.w, i1, i2, g.n]; rfl
    have ho : F.ptOk s m = true := by unfold F.ptOk F.ptU; rw [hk, c3, c4, g.u]; rfl
    have hR : F.ptR s m = F.cutT (F.cutT s F.nl) F.nl := by unfold F.ptR; rw [hk]; rfl
    have hM : F.ptM s m = ⟨m.streams ++ [x], m.sounds⟩ := by unfold F.ptM F.ptSt F.ptSo; rw [ho, hk, c2, c4, g.r]; rfl
    rw [F.rdS_go h0 ho, hR, hM]
    obtain ⟨n', ih⟩ := F.rd_strs l (F.cutT (F.cutT s F.nl) F.nl) (n + (F.ptN s m : Int)) ⟨m.streams ++ [x], m.sounds⟩ (fun y hy => hx y (List.mem_cons_of_mem _ hy)) c5
    exact ⟨n', by rw [ih]; simp⟩

theorem F.rd_snds (k : List Strm) (hk : ∀ x ∈ k, F.StrG x) : ∀ (l : List Snd) (s : ByteArray) (n : Int) (so : List Snd), (∀ x ∈ l, F.SndG x) → F.bs s = F.sndsL l ++ F.strsL k → ∃ n', F.rdS s n ⟨[], so⟩ = (true, n', ⟨k, so ++ l⟩)
  | [], s, n, so, _, h => by
    obtain ⟨n', h1⟩ := F.rd_strs k s n ⟨[], so⟩ hk (by rw [h]; rfl)
    exact ⟨n', by rw [h1]; simp⟩
  | x :: l, s, n, so, hx, h => by
    have g := hx x (List.mem_cons_self ..)
    obtain ⟨i1, i4, i3⟩ := F.sndWs_is x
    have h : F.bs s = F.two (F.sndWs x) x.uri ++ (F.sndsL l ++ F.strsL k) := by rw [h]; simp [F.sndsL, F.sndL]
    obtain ⟨c1, c2, c3, c4, c5⟩ := F.two_cut g.w i3 g.v h
    have h0 : s.size ≠ 0 := by
      rw [← F.bs_len, h, List.length_append]
      have := F.two_pos (F.sndWs x) x.uri
      omega
    have hk1 : F.ptK s ⟨[], so⟩ = 1 := by unfold F.ptK; rw [c1, c2, g.w, i1]; rfl
    have ho : F.ptOk s ⟨[], so⟩ = true := by unfold F.ptOk F.ptU; rw [hk1, c3, c4, g.u]; rfl
    have hR : F.ptR s ⟨[], so⟩ = F.cutT (F.cutT s F.nl) F.nl := by unfold F.ptR; rw [hk1]; rfl
    have hM : F.ptM s ⟨[], so⟩ = ⟨[], so ++ [x]⟩ := by unfold F.ptM F.ptSt F.ptSo; rw [ho, hk1, c2, c4, i4]; rfl
    rw [F.rdS_go h0 ho, hR, hM]
    obtain ⟨n', ih⟩ := F.rd_snds k hk l (F.cutT (F.cutT s F.nl) F.nl) (n + (F.ptN s ⟨[], so⟩ : Int)) (so ++ [x]) (fun y hy => hx y (List.mem_cons_of_mem _ hy)) c5
    exact ⟨n', by rw [ih]; simp⟩

theorem F.w4 {w : List ByteArray} (h : w.length = 4) : w = [F.wAt w 0, F.wAt w 1, F.wAt w 2, F.wAt w 3] := by
  match w, h with
  | [a, b, c, d], _ => rfl

theorem F.w5 {w : List ByteArray} (h : w.length = 5) : w = [F.wAt w 0, F.wAt w 1, F.wAt w 2, F.wAt w 3, F.wAt w 4] := by
  match w, h with
  | [a, b, c, d, e], _ => rfl

theorem F.w7 {w : List ByteArray} (h : w.length = 7) : w = [F.wAt w 0, F.wAt w 1, F.wAt w 2, F.wAt w 3, F.wAt w 4, F.wAt w 5, F.wAt w 6] := by
  match w, h with
  | [a, b, c, d, e, f, g], _ => rfl

theorem F.snd_ws {w : List ByteArray} {u : ByteArray} (h : F.isSnd w = true) : F.sndWs (F.sndOf w u) = w := by
  unfold F.isSnd at h
  simp only [Bool.and_eq_true, Bool.or_eq_true, decide_eq_true_eq, F.seq_iff] at h
  obtain ⟨h1, h2 | ⟨h2, h3⟩⟩ := h
  · have e := F.w4 h2
    have d : decide (w.length = 5) = false := decide_eq_false (by omega)
    unfold F.sndWs F.sndOf
    simp only [d, cond_false]
    rw [h1] at e
    exact e.symm
  · have e := F.w5 h2
    have d : decide (w.length = 5) = true := decide_eq_true h2
    unfold F.sndWs F.sndOf
    simp only [d, cond_true]
    rw [h1, h3] at e
    exact e.symm

theorem F.dash_un {s : ByteArray} (h : s.size ≠ 0) : F.dash (F.undash s) = s := by
  unfold F.undash
  cases h1 : F.seq s ⟨⟨[45]⟩⟩
  · unfold F.dash
    cases h2 : F.seq s ⟨⟨[]⟩⟩
    · simp only [cond_false, h2]
    · rw [F.seq_iff] at h2
      rw [h2] at h
      exact absurd rfl h
  · rw [F.seq_iff] at h1
    rw [h1, cond_true]
    unfold F.dash
    rw [F.seq_refl]; rfl

theorem F.str_ws {w : List ByteArray} {u : ByteArray} (h : F.isStr w = true) (hn : F.numsOk w = true) (hw : F.wOk w = true) : F.strWs (F.strOf w u) = w := by
  unfold F.isStr at h
  simp only [Bool.and_eq_true, decide_eq_true_eq, F.seq_iff] at h
  obtain ⟨h1, h2⟩ := h
  have e := F.w7 h2
  unfold F.numsOk at hn
  simp only [Bool.and_eq_true] at hn
  obtain ⟨⟨⟨n1, n2⟩, n3⟩, n4⟩ := hn
  have h6 : (F.wAt w 6).size ≠ 0 := by
    have hm : F.wAt w 6 ∈ w := by
      have : w[6]? = some (F.wAt w 6) := by rw [e]; rfl
      exact List.mem_of_getElem? this
    have := List.all_eq_true.1 hw _ hm
    unfold F.wdB at this
    simp only [Bool.and_eq_true, decide_eq_true_eq] at this
    exact this.1
  unfold F.strWs F.strOf
  simp only [F.itoa_num n1, F.itoa_num n2, F.itoa_num n3, F.itoa_num n4, F.dash_un h6]
  rw [h1] at e
  exact e.symm

theorem F.ptM_fix {s : ByteArray} {m : Mas} (ho : F.ptOk s m = true) :
    (m.streams = [] ∧ F.sndWs (F.sndOf (F.wds (F.cutH s F.nl)) (F.cutH (F.cutT s F.nl) F.nl)) = F.wds (F.cutH s F.nl) ∧ F.ptM s m = ⟨m.streams, m.sounds ++ [F.sndOf (F.wds (F.cutH s F.nl)) (F.cutH (F.cutT s F.nl) F.nl)]⟩) ∨
    (F.ptM s m = ⟨m.streams ++ [F.strOf (F.wds (F.cutH s F.nl)) (F.cutH (F.cutT s F.nl) F.nl)], m.sounds⟩ ∧ F.strWs (F.strOf (F.wds (F.cutH s F.nl)) (F.cutH (F.cutT s F.nl) F.nl)) = F.wds (F.cutH s F.nl)) := by
  have hk : F.ptK s m ≠ 0 := by
    unfold F.ptOk at ho
    rw [Bool.and_eq_true, decide_eq_true_eq] at ho
    exact ho.1
  unfold F.ptM F.ptSt F.ptSo
  rw [ho]
  unfold F.ptK at hk ⊢
  cases hc : F.cutF s F.nl
  · rw [hc] at hk; exact absurd rfl hk
  cases hw : F.wOk (F.wds (F.cutH s F.nl))
  · rw [hc, hw] at hk; exact absurd rfl hk
  rw [hc, hw] at hk
  cases h1 : (F.isSnd (F.wds (F.cutH s F.nl)) && decide (m.streams.length = 0))
  · rw [h1] at hk
    cases h2 : (F.isStr (F.wds (F.cutH s F.nl)) && F.numsOk (F.wds (F.cutH s F.nl)))
    · rw [h2] at hk; exact absurd rfl hk
    · right
      rw [Bool.and_eq_true] at h2
      exact ⟨rfl, F.str_ws h2.1 h2.2 hw⟩
  · left
    rw [Bool.and_eq_true, decide_eq_true_eq] at h1
    exact ⟨List.length_eq_zero_iff.1 h1.2, F.snd_ws h1.1, rfl⟩

/-- What was read, written again. -/
theorem F.rd_back : ∀ (k : Nat) (s : ByteArray) (n : Int) (m : Mas), s.size ≤ k → (F.rdS s n m).1 = true →
    ∃ st so, (F.rdS s n m).2.2 = ⟨m.streams ++ st, m.sounds ++ so⟩ ∧ F.bs s = F.sndsL so ++ F.strsL st ∧ (m.streams ≠ [] → so = []) := by
  intro k
  induction k with
  | zero =>
    intro s n m h _
    have h0 : s.size = 0 := by omega
    refine ⟨[], [], by rw [F.rdS_end h0]; simp, ?_, fun _ => rfl⟩
    exact List.length_eq_zero_iff.1 (by rw [F.bs_len, h0])
  | succ k ih =>
    intro s n m h ht
    by_cases h0 : s.size = 0
    · refine ⟨[], [], by rw [F.rdS_end h0]; simp, ?_, fun _ => rfl⟩
      exact List.length_eq_zero_iff.1 (by rw [F.bs_len, h0])
    cases ho : F.ptOk s m
    · rw [F.rdS_bad h0 ho] at ht; cases ht
    rw [F.rdS_go h0 ho] at ht ⊢
    have hlt := F.ptR_lt m h0
    obtain ⟨st, so, e1, e2, e3⟩ := ih _ _ _ (by omega) ht
    have ho' := ho
    unfold F.ptOk F.ptU at ho'
    simp only [Bool.and_eq_true, decide_eq_true_eq] at ho'
    obtain ⟨hk, hc2, hu⟩ := ho'
    have hR : F.ptR s m = F.cutT (F.cutT s F.nl) F.nl := by unfold F.ptR; rw [decide_eq_false hk]; rfl
    have hM := F.ptM_fix ho
    rw [hR] at e2
    have hk2 := hk
    unfold F.ptK at hk2
    cases hc1 : F.cutF s F.nl
    · rw [hc1] at hk2; exact absurd rfl hk2
    have hb := F.two_back hc1 hc2
    rw [e2] at hb
    rcases hM with ⟨hz, hs, hM⟩ | ⟨hM, hs⟩
    · rw [hM] at e3
      refine ⟨st, F.sndOf (F.wds (F.cutH s F.nl)) (F.cutH (F.cutT s F.nl) F.nl) :: so, by rw [e1, hM]; simp, ?_, fun h => absurd hz h⟩
      rw [hb]
      simp [F.sndsL, F.sndL, hs]
      rfl
    · rw [hM] at e3
      have hso : so = [] := e3 (by simp)
      subst hso
      refine ⟨F.strOf (F.wds (F.cutH s F.nl)) (F.cutH (F.cutT s F.nl) F.nl) :: st, [], by rw [e1, hM]; simp, ?_, fun _ => rfl⟩
      rw [hb]
      simp [F.sndsL, F.strsL, F.strL, hs]
      rfl

end Go.Proofs.YtipngpndgniagaaDoor
