/- Maps that hold 'true' alone: made, written, looked up. -/
import Derived.Test.YtahehkidnfmfnaaGreatPvStore
set_option linter.all false
namespace Go.PV
open Go Go.ChangeMaps Go.MapKept

section
variable {P : Program} {Γ : Tab} {B : Nat → Prop} {new : Id → Prop} {s : St} {tmps : Array Value} {w : World} {φ : Hd} {β : Bl} {R : Type} {r : R}

theorem sameMap_ok {a b a' b' : TypeId} {κ κ' : IntKind} (h : sameMap a b a' b' κ κ' = true) : a = a' ∧ b = b' ∧ κ = κ' := by
  obtain ⟨h1, h2⟩ := both_true.1 h
  obtain ⟨h3, h4⟩ := both_true.1 h1
  exact ⟨beq_eq h3, beq_eq h4, kb_eq h2⟩

theorem map_info (hΓ : TabOk P Γ) {t : TypeId} {k e : TypeId} {fs : List (Nat × Ty)} {el : Option (TypeId × Ty × Nat)} (h : Γ t = some ⟨.sptr k e, fs, el⟩) :
    P.underlying t = some (.map k e) ∧ P.underlying e = some .bool ∧ ∀ w, (zeroValue e).run P w = .ok (.bool false) w := by
  obtain ⟨_, _, u, I⟩ := hΓ _ _ h
  obtain ⟨hu, _, de, he, heb⟩ := I.mapd k e rfl
  obtain ⟨ie, ze, ue, Ie⟩ := hΓ _ _ he
  have e2 := Ie.bool heb
  have e3 := Ie.zbool heb
  subst hu e2 e3
  exact ⟨I.under, Ie.under, fun w => by simp [zeroValue, run_info Ie.info, Ie.zero]⟩
theorem plainBool_inv {H : Type} {e : TypeId} (he : P.underlying e = some .bool) {v : Value} {z : DataW H × List MemPlace} (h : plainElem P e v = some z) : ∃ b, v = .bool b ∧ z = (.lit (.bool b), []) := by
  unfold plainElem at h
  rw [he] at h
  cases v <;> simp at h
  exact ⟨_, rfl, h.symm⟩

theorem wfI_ok {k : IntKind} {x : Int} (h : wfI k x = true) : (Lit.int k x).wf = true := by
  have e : k.wrap x = x := by simpa [wfI, ieq] using h
  rw [← e]
  cases k <;> simp [Lit.wf, IntKind.wrap, IntKind.min, IntKind.max, IntKind.bits, IntKind.signed] <;> omega

theorem eff_mkmap (hΓ : TabOk P Γ) {id : Id} (Rl : Rel P B new s tmps w φ β) (hid : new id) {t : TypeId} {K : Kont R} (h : mkMapF Γ (some id) t K = some r) :
    Eff P B (fun i => new i ∧ i ≠ id) s tmps w φ β (Instr.makeMap t none) K r := by
  unfold mkMapF at h
  split at h
  · rename_i id' k e fs el e1 hd
    injection e1 with e1
    subst e1
    split at h
    · rename_i κ fs' el' hk
      obtain ⟨_, _, uk, Ik⟩ := hΓ _ _ hk
      have e1 := Ik.int κ rfl
      subst e1
      obtain ⟨n, R'⟩ := Rel.fresh (o := .mp k e κ []) (hdr := .map (some w.heap.size)) (ob := .map #[] 0) Rl hid (w0 := w) ⟨rfl, rfl, rfl, rfl, Nat.le_refl _⟩
        (fun n => ⟨w.heap.size, 0, .map [], rfl, World.ownsMap_made w P k (plainElem P e), Nat.le_refl _, rfl, Ik.under, fun x _ => rfl⟩)
      exact ⟨_, _, _, _, _, _, _, h, rfl, ⟨setH_same _ _ _, _, rfl⟩, n, R'⟩
    · cases h
  · cases h

theorem sim_mapget (hΓ : TabOk P Γ) {σr : Sto} (O : Obs P s.sto σr φ β w B) {t : TypeId} {m k : V} {vm vk : Value} {K : Kont R} (hm : VR P s.sto φ w B m vm) (hk : VR P s.sto φ w B k vk) (h : mapGetF Γ σr t m k K = some r) :
    Gives P s.sto φ w B (Instr.lookup t vm vk false) K r := by
  unfold mapGetF at h
  split at h
  · rename_i a b fs el id κ x hd
    split at h
    · rename_i a' b' κ' xs ho
      obtain ⟨hb, hK0⟩ := cond_some h
      obtain ⟨hc, hK⟩ := chk_some hK0
      clear h hK0
      obtain ⟨rfl, rfl, rfl⟩ := sameMap_ok hb
      obtain ⟨h1, h5, h6⟩ := map_info hΓ hd
      obtain ⟨v, hv, g, n, D, e1, hown, hn, hbs, hκ, hD⟩ := O id _ ho
      obtain ⟨hp, g', e2⟩ := hm
      rw [hv] at hp
      injection hp with hp
      subst hp
      subst e1
      have := vr_int hk
      subst this
      have hw := wfI_ok hc
      obtain ⟨z, ps, hrun, hz⟩ := hown.lookup (Maps.int_keyed hκ) h1 (h6 w) (plainElem_bool h5 false) (Maps.keyOf_int_mk hκ hw)
      obtain ⟨y, rfl, hy⟩ := plainBool_inv h5 hz
      rw [hD x hw] at hy
      injection hy with hy _
      injection hy with hy
      injection hy with hy
      subst hy
      exact ⟨_, _, hK, cr_bool _, hrun⟩
    · cases h
  · cases h

theorem hasI_app (xs : List Int) (x y : Int) : hasI (tApp xs [x]) y = (hasI xs y || decide (y = x)) := by
  unfold hasI tApp
  by_cases h1 : y ∈ xs <;> by_cases h2 : y = x <;> simp [h1, h2]

theorem eff_mapput (hΓ : TabOk P Γ) (Rl : Rel P B new s tmps w φ β) {σr : Sto} (hσ : ∀ id o, σr id = some o → s.sto id = some o) {t : TypeId} {m k v : V} {vm vk vv : Value} {K : Kont R}
    (hm : VR P s.sto φ w B m vm) (hk : VR P s.sto φ w B k vk) (hv : VR P s.sto φ w B v vv) (h : mapPutF Γ σr t m k v K = some r) : EffU P B new s tmps w φ β (Instr.mapUpdate t vm vk vv) K r := by
  unfold mapPutF at h
  split at h
  · rename_i a b fs el id κ x y hd
    split at h
    · rename_i a' b' κ' xs ho
      obtain ⟨hb, hK0⟩ := cond_some h
      obtain ⟨hc, hK⟩ := chk_some hK0
      clear h hK0
      obtain ⟨hs, hy⟩ := both_true.1 hb
      obtain ⟨rfl, rfl, rfl⟩ := sameMap_ok hs
      have hy' : y = true := hy
      subst hy'
      have ho := hσ _ _ ho
      obtain ⟨h1, h5, h6⟩ := map_info hΓ hd
      obtain ⟨v0, hv0, ⟨g, n, D, e1, hown, hn, hbs, hκ, hD⟩, h7, h8⟩ := Rl.obj id _ ho
      obtain ⟨hp, g', e2⟩ := hm
      rw [hv0] at hp
      injection hp with hp
      subst hp
      subst e1
      have := vr_int hk
      subst this
      have hvb : vv = .bool true := by
        obtain ⟨us, e3, e4⟩ := hv
        have e4 : us = [.bool true] := e4
        rw [e3, e4]
        rfl
      subst hvb
      obtain ⟨hw, hr⟩ := Bool.and_eq_true_iff.1 hc
      have hw := wfI_ok hw
      have hr : xs.length + 1 ≤ 1099511627776 := by
        have := ble_le (show Nat.ble (xs.length + [x].length) 1099511627776 = true from hr)
        simpa using this
      have hkey := Maps.keyOf_int_mk hκ hw
      have K0 := Maps.int_keyed hκ
      obtain ⟨es, clock, hb0, F, hsz, hDe⟩ := hown
      obtain ⟨es', clock', hrun, F', hput, _⟩ := Maps.fit_store (R' := plainElem P b) K0 h1 hb0 F (show es.size < maxLen by unfold maxLen; omega) (fun _ _ _ _ hz => hz) hkey (plainElem_bool (H := Unit) h5 true)
      have hgm : g ∈ β id := by rw [hbs]; simp
      have hgl : g < w.heap.size := (h8 g hgm).2
      have hfr : Fr w (ChangeMaps.setBlock w g (.map es' clock')) (fun b => b ≠ g) := ⟨rfl, rfl, rfl, Nat.le_refl _, by simp [ChangeMaps.setBlock], fun i hi hne => heap_setBlock_other hb0 _ hne⟩
      have hown' : (ChangeMaps.setBlock w g (.map es' clock')).ownsMap P a (plainElem P b) g (n + 1) (D.put (.int κ x) (.lit (.bool true))) := by
        refine ⟨es', clock', heap_setBlock_same hb0 _, F', ?_, ?_⟩
        · have e1 : es'.size = ((es'.toList.map (WideElems.rg P a (plainElem (H := Unit) P b))).foldr DataW.insert []).length := by rw [length_sorted]; simp
          rw [e1, hput]
          unfold putKey
          rw [length_insert]
          have e2 := List.length_filter_le (notKey (.int κ x)) ((es.toList.map (WideElems.rg P a (plainElem (H := Unit) P b))).foldr DataW.insert [])
          rw [length_sorted] at e2
          simp at e2
          omega
        · rw [hDe, DataW.put_eq, hput]
      obtain ⟨n', R'⟩ := Rel.turn (gone := []) (σ' := s.sto.puts [(id, some (.mp a b κ (tApp xs [x])))]) (bs := β id)
        (w' := ChangeMaps.setBlock w g (.map es' clock')) (K := fun b => b ≠ g) Rl ho (by simp) (put_same _ _ _) (by simp)
        (fun j hj _ => put_other _ _ hj) hfr (ku ho hgm) (Rl.notB ho hgm) (fun j hj _ hs b hb e => Rl.sep id j (Ne.symm hj) (by rw [ho]; simp) hs g hgm (e ▸ hb)) h7
        (fun b hb => ⟨by simpa [ChangeMaps.setBlock] using (h8 b hb).2, .inr ⟨id, .inl rfl, by rw [ho]; simp, hb⟩⟩)
        (fun n' v hv => by
          rw [hv0] at hv
          injection hv with hv
          subst hv
          refine ⟨g, n + 1, _, rfl, hown', by simp [tApp]; exact hn, hbs, hκ, fun z hz => ?_⟩
          rw [hasI_app]
          by_cases e : z = x
          · subst e
            rw [Maps.atKey_put_same ⟨_, hDe⟩ (K0.key hkey)]
            simp
          · rw [Maps.atKey_put_other (by intro q; injection q with _ q; exact e q), hD z hz]
            simp [e])
        (fun e t m xs hv hole h => by cases h) (fun e a b xs hv hole e' xs' hole' g of n c h => by cases h)
      exact ⟨_, _, _, hK, hrun, n', R'⟩
    · cases h
  · cases h
end
end Go.PV
