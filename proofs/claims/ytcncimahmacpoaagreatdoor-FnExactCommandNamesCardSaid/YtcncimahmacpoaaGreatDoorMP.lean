/- Maps in printed walks (own framework). -/
import Derived.Test.YtcncimahmacpoaaGreatDoorB5
set_option linter.unusedVariables false
set_option linter.unusedSimpArgs false
namespace Go.Ab
open Go.RowKit

/-- Keys: how they are compared. -/
structure KeyEnc {κ : Type} [DecidableEq κ] (kd : Nat) (ek : κ → Sc) : Prop where
  same : ∀ a b, sameSc kd (ek a) (ek b) = some (decide (a = b))
theorem keyStr : KeyEnc 2 Sc.str := ⟨fun a b => rfl⟩
theorem keyInt (k : IntKind) : KeyEnc 0 (Sc.int k) := ⟨fun a b => by simp only [sameSc, if_true]; rw [Option.some.injEq, Bool.eq_iff_iff]; simp⟩

section
variable {κ β : Type} [DecidableEq κ]
def mfd (k : κ) : List (κ × β) → Nat → Option (Nat × β)
  | [], _ => none
  | (k', v) :: M, i => if k = k' then some (i, v) else mfd k M (i + 1)
def mgt (M : List (κ × β)) (k : κ) (z : β) : β := match mfd k M 0 with
  | some p => p.2
  | none => z
def mhs (M : List (κ × β)) (k : κ) : Bool := (mfd k M 0).isSome
def mst (M : List (κ × β)) (k : κ) (v : β) : List (κ × β) := match mfd k M 0 with
  | some p => M.set p.1 (k, v)
  | none => M ++ [(k, v)]
def mix (M : List (κ × β)) (k : κ) : Nat := match mfd k M 0 with
  | some p => p.1
  | none => M.length
def mmk (M : List (κ × β)) (k : κ) (z : β) : List (κ × β) := match mfd k M 0 with
  | some _ => M
  | none => M ++ [(k, z)]
@[simp] def eM (ek : κ → Sc) (ev : β → Sc) (p : κ × β) : Sc × Sc := (ek p.1, ev p.2)
@[simp] def eMV (ek : κ → Sc) (ev : β → Sc) (M : List (κ × β)) : V := .mp (M.map (eM ek ev))

variable {kd : Nat} {ek : κ → Sc} {ev' : β → Sc}
theorem mfind_map (K : KeyEnc kd ek) (k : κ) : ∀ (M : List (κ × β)) (i : Nat), mfind kd (ek k) (M.map (eM ek ev')) i = some ((mfd k M i).map fun p => (p.1, ev' p.2))
  | [], i => rfl
  | (k', v) :: M, i => by
    simp only [List.map_cons, mfind, eM, K.same, mfd]
    by_cases h : k = k'
    · simp [h]
    · simp only [h, decide_false, if_false]
      exact mfind_map K k M (i + 1)
theorem mfd_at {k : κ} : ∀ {M : List (κ × β)} {i : Nat} {p : Nat × β}, mfd k M i = some p → i ≤ p.1 ∧ M[p.1 - i]? = some (k, p.2)
  | [], i, p, h => by cases h
  | (k', v) :: M, i, p, h => by
    simp only [mfd] at h
    split at h
    · rename_i e
      simp only [Option.some.injEq] at h; subst h; subst e
      simp
    · obtain ⟨h1, h2⟩ := mfd_at h
      refine ⟨by omega, ?_⟩
      rw [show p.1 - i = (p.1 - (i + 1)) + 1 by omega]
      simpa using h2

variable {s : St} {x k : X} {M : List (κ × β)} {kk : κ}
theorem ev_mlk1 {z : β} (hx : mapOf s (s.get x) = some (M.map (eM ek ev'))) (hk : scOf s (s.get k) = some (ek kk)) (K : KeyEnc kd ek) : ev s (.mlk kd x k (ev' z) true) = some (.tup [.val none (ev' (mgt M kk z)).v, AB (mhs M kk)]) := by
  simp only [ev, hx, hk, mfind_map K, mgt, mhs]
  cases mfd kk M 0 <;> rfl
theorem ev_mlk0 {z : β} (hx : mapOf s (s.get x) = some (M.map (eM ek ev'))) (hk : scOf s (s.get k) = some (ek kk)) (K : KeyEnc kd ek) : ev s (.mlk kd x k (ev' z) false) = some (.val none (ev' (mgt M kk z)).v) := by
  simp only [ev, hx, hk, mfind_map K, mgt]
  cases mfd kk M 0 <;> rfl

variable {l : List (Nat × AV)} {L : List (Nat × Root)} {n id r : Nat} {v t : X} {vv z : β}
theorem effT_mkm : eff (mkS l (fo L) n) id .mkm = some (.mp id, fo ((id, .map []) :: L)) := by
  simp only [eff, mk_objs, upd_fo]
theorem effT_mpu (hx : (mkS l (fo L) n).get x = .mp r) (hr : fo L r = some (.map (M.map (eM ek ev')))) (hk : scOf (mkS l (fo L) n) ((mkS l (fo L) n).get k) = some (ek kk)) (hv : scOf (mkS l (fo L) n) ((mkS l (fo L) n).get v) = some (ev' vv)) (K : KeyEnc kd ek) :
    eff (mkS l (fo L) n) id (.mpu kd x k v) = some (.undef, fo ((r, .map ((mst M kk vv).map (eM ek ev'))) :: L)) := by
  simp only [eff, hx, mk_objs, hr, hk, hv, mfind_map K, upd_fo, mst]
  cases h : mfd kk M 0 with
  | none => simp [mput]
  | some p =>
    simp only [Option.map_some, mput]
    rw [List.map_set]
    rfl
theorem effT_men (hx : (mkS l (fo L) n).get x = .mp r) (hr : fo L r = some (.map (M.map (eM ek ev')))) (hk : scOf (mkS l (fo L) n) ((mkS l (fo L) n).get k) = some (ek kk)) (K : KeyEnc kd ek) :
    eff (mkS l (fo L) n) id (.men kd x k (ev' z)) = some (.tup [.val none (ev' (mgt M kk z)).v, AI (mix M kk)], fo ((r, .map ((mmk M kk z).map (eM ek ev'))) :: L)) := by
  simp only [eff, hx, mk_objs, hr, hk, mfind_map K, upd_fo, mmk, mgt, mix]
  cases h : mfd kk M 0 with
  | none => simp [mentry]
  | some p => simp [mentry]
theorem effT_mes (hx : (mkS l (fo L) n).get x = .mp r) (hr : fo L r = some (.map ((mmk M kk z).map (eM ek ev')))) (ht : (mkS l (fo L) n).get t = AI (mix M kk)) (hv : scOf (mkS l (fo L) n) ((mkS l (fo L) n).get v) = some (ev' vv)) :
    eff (mkS l (fo L) n) id (.mes x t v) = some (.undef, fo ((r, .map ((mst M kk vv).map (eM ek ev'))) :: L)) := by
  simp only [eff, hx, mk_objs, hr, ht, hv, asI, St.view, mmk, mix, mst]
  cases h : mfd kk M 0 with
  | none => simp [upd_fo]
  | some p =>
    obtain ⟨_, h2⟩ := mfd_at h
    simp only [Nat.sub_zero] at h2
    have h3 : (M.map (eM ek ev'))[p.1]? = some (ek kk, ev' p.2) := by rw [List.getElem?_map, h2]; rfl
    simp [upd_fo, h3, List.map_set]
end
end Go.Ab
