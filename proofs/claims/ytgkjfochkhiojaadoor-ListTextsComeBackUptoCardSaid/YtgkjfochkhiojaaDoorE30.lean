/- What is proved here: the data of lists of all renditions, and how they lie on plain data (no statement of the seat). -/
import Derived.Test.YtgkjfochkhiojaaDoorE8
namespace Go.Proofs.YtgkjfochkhiojaaDoor
open Go Go.RowKit
set_option linter.unusedVariables false
set_option linter.unusedSimpArgs false

structure Snd where
  group : ByteArray
  name : ByteArray
  lang : ByteArray
  dflt : Bool
  uri : ByteArray

instance : Inhabited Snd := ⟨⟨⟨#[]⟩, ⟨#[]⟩, ⟨#[]⟩, false, ⟨#[]⟩⟩⟩

structure Strm where
  name : ByteArray
  uri : ByteArray
  mean : Int
  peak : Int
  width : Int
  height : Int
  sound : ByteArray

instance : Inhabited Strm := ⟨⟨⟨#[]⟩, ⟨#[]⟩, 0, 0, 0, 0, ⟨#[]⟩⟩⟩

structure Mas where
  streams : List Strm
  sounds : List Snd

instance : Inhabited Mas := ⟨⟨[], []⟩⟩

namespace M


def eSnd (x : Snd) : Row := [vS x.group, vS x.name, vS x.lang, vB x.dflt, vS x.uri]

theorem eSnd_inj (a b : Snd) (h : eSnd a = eSnd b) : a = b := by
  obtain ⟨a0, a1, a2, a3, a4⟩ := a
  obtain ⟨b0, b1, b2, b3, b4⟩ := b
  simp only [eSnd] at h
  simp [strs_inj, ints_inj, bools_inj] at h
  simp_all

theorem eSnds_inj {a b : List Snd} : a.map eSnd = b.map eSnd ↔ a = b := List.map_inj_right eSnd_inj

theorem eSnd_iff {a b : Snd} : eSnd a = eSnd b ↔ a = b := ⟨eSnd_inj a b, fun h => h ▸ rfl⟩

theorem unSnds (xs : List Snd) : unenc (List.map eSnd) (xs.map eSnd) = some xs := unenc_of (fun a b h => eSnds_inj.1 h) xs rfl

theorem etaSnd (x : Snd) : Snd.mk x.group x.name x.lang x.dflt x.uri = x := rfl

theorem appSnds' (xs : List Snd) (x : Snd) : xs.map eSnd ++ [[vS x.group, vS x.name, vS x.lang, vB x.dflt, vS x.uri]] = (xs ++ [x]).map eSnd := by simp [eSnd]

theorem all_Snds (xs : List Snd) : ((xs.map eSnd).all fun r => Nat.beq (List.length r) 5) = true := by simp [eSnd]

theorem appWSnds (xs : List Snd) (x_group : ByteArray) (x_name : ByteArray) (x_lang : ByteArray) (x_dflt : Bool) (x_uri : ByteArray) : xs.map eSnd ++ [[vS x_group, vS x_name, vS x_lang, vB x_dflt, vS x_uri]] = (xs ++ [(Snd.mk x_group x_name x_lang x_dflt x_uri)]).map eSnd := by simp [eSnd]

theorem setWSnds (xs : List Snd) (i : Nat) (x_group : ByteArray) (x_name : ByteArray) (x_lang : ByteArray) (x_dflt : Bool) (x_uri : ByteArray) : (xs.map eSnd).set i [vS x_group, vS x_name, vS x_lang, vB x_dflt, vS x_uri] = (xs.set i (Snd.mk x_group x_name x_lang x_dflt x_uri)).map eSnd := by simp [eSnd, List.map_set]

def eqSnd (a b : Snd) : Bool := ((a.group.toList == b.group.toList) && ((a.name.toList == b.name.toList) && ((a.lang.toList == b.lang.toList) && ((a.dflt == b.dflt) && ((a.uri.toList == b.uri.toList) && true)))))

theorem eqSnd_refl (a : Snd) : eqSnd a a = true := by simp [eqSnd]

def eStrm (x : Strm) : Row := [vS x.name, vS x.uri, vI x.mean, vI x.peak, vI x.width, vI x.height, vS x.sound]

theorem eStrm_inj (a b : Strm) (h : eStrm a = eStrm b) : a = b := by
  obtain ⟨a0, a1, a2, a3, a4, a5, a6⟩ := a
  obtain ⟨b0, b1, b2, b3, b4, b5, b6⟩ := b
  simp only [eStrm] at h
  simp [strs_inj, ints_inj, bools_inj, eSnds_inj, eSnd_iff] at h
  simp_all

theorem eStrms_inj {a b : List Strm} : a.map eStrm = b.map eStrm ↔ a = b := List.map_inj_right eStrm_inj

theorem eStrm_iff {a b : Strm} : eStrm a = eStrm b ↔ a = b := ⟨eStrm_inj a b, fun h => h ▸ rfl⟩

theorem unStrms (xs : List Strm) : unenc (List.map eStrm) (xs.map eStrm) = some xs := unenc_of (fun a b h => eStrms_inj.1 h) xs rfl

theorem etaStrm (x : Strm) : Strm.mk x.name x.uri x.mean x.peak x.width x.height x.sound = x := rfl

theorem appStrms' (xs : List Strm) (x : Strm) : xs.map eStrm ++ [[vS x.name, vS x.uri, vI x.mean, vI x.peak, vI x.width, vI x.height, vS x.sound]] = (xs ++ [x]).map eStrm := by simp [eStrm]

theorem all_Strms (xs : List Strm) : ((xs.map eStrm).all fun r => Nat.beq (List.length r) 7) = true := by simp [eStrm]

theorem appWStrms (xs : List Strm) (x_name : ByteArray) (x_uri : ByteArray) (x_mean : Int) (x_peak : Int) (x_width : Int) (x_height : Int) (x_sound : ByteArray) : xs.map eStrm ++ [[vS x_name, vS x_uri, vI x_mean, vI x_peak, vI x_width, vI x_height, vS x_sound]] = (xs ++ [(Strm.mk x_name x_uri x_mean x_peak x_width x_height x_sound)]).map eStrm := by simp [eStrm]

theorem setWStrms (xs : List Strm) (i : Nat) (x_name : ByteArray) (x_uri : ByteArray) (x_mean : Int) (x_peak : Int) (x_width : Int) (x_height : Int) (x_sound : ByteArray) : (xs.map eStrm).set i [vS x_name, vS x_uri, vI x_mean, vI x_peak, vI x_width, vI x_height, vS x_sound] = (xs.set i (Strm.mk x_name x_uri x_mean x_peak x_width x_height x_sound)).map eStrm := by simp [eStrm, List.map_set]

def eqStrm (a b : Strm) : Bool := ((a.name.toList == b.name.toList) && ((a.uri.toList == b.uri.toList) && ((a.mean == b.mean) && ((a.peak == b.peak) && ((a.width == b.width) && ((a.height == b.height) && ((a.sound.toList == b.sound.toList) && true)))))))

theorem eqStrm_refl (a : Strm) : eqStrm a a = true := by simp [eqStrm]

def eMas (x : Mas) : Row := [.sl (x.streams.map eStrm), .sl (x.sounds.map eSnd)]

theorem eMas_inj (a b : Mas) (h : eMas a = eMas b) : a = b := by
  obtain ⟨a0, a1⟩ := a
  obtain ⟨b0, b1⟩ := b
  simp only [eMas] at h
  simp [strs_inj, ints_inj, bools_inj, eSnds_inj, eSnd_iff, eStrms_inj, eStrm_iff] at h
  simp_all

theorem eMass_inj {a b : List Mas} : a.map eMas = b.map eMas ↔ a = b := List.map_inj_right eMas_inj

theorem eMas_iff {a b : Mas} : eMas a = eMas b ↔ a = b := ⟨eMas_inj a b, fun h => h ▸ rfl⟩

theorem unMass (xs : List Mas) : unenc (List.map eMas) (xs.map eMas) = some xs := unenc_of (fun a b h => eMass_inj.1 h) xs rfl

theorem etaMas (x : Mas) : Mas.mk x.streams x.sounds = x := rfl

theorem appMass' (xs : List Mas) (x : Mas) : xs.map eMas ++ [[.sl (x.streams.map eStrm), .sl (x.sounds.map eSnd)]] = (xs ++ [x]).map eMas := by simp [eMas]

theorem all_Mass (xs : List Mas) : ((xs.map eMas).all fun r => Nat.beq (List.length r) 2) = true := by simp [eMas]

theorem appWMass (xs : List Mas) (x_streams : List Strm) (x_sounds : List Snd) : xs.map eMas ++ [[.sl (x_streams.map eStrm), .sl (x_sounds.map eSnd)]] = (xs ++ [(Mas.mk x_streams x_sounds)]).map eMas := by simp [eMas]

theorem setWMass (xs : List Mas) (i : Nat) (x_streams : List Strm) (x_sounds : List Snd) : (xs.map eMas).set i [.sl (x_streams.map eStrm), .sl (x_sounds.map eSnd)] = (xs.set i (Mas.mk x_streams x_sounds)).map eMas := by simp [eMas, List.map_set]


noncomputable def lksS : List Lk := [⟨9, lkp eStr ⟨#[]⟩⟩, ⟨3, lkp eI 0⟩, ⟨25, lkp eI 0⟩, ⟨44, lkp eEnt default⟩]

theorem lksS_ok : ∀ x ∈ lksS, LkOK x := by
  simp only [lksS, List.forall_mem_cons]
  exact ⟨lkp_ok, lkp_ok, lkp_ok, lkp_ok, by simp⟩


end M
end Go.Proofs.YtgkjfochkhiojaaDoor
