/- Operations that give a value and leave memory alone. -/
import Derived.Test.YtahehkidnfmfnaaGreatPvOps
import Derived.Laws.Slices
set_option linter.all false
namespace Go.PV
open Go

structure ProgOk (P : Program) (Γ : Tab) : Prop where
  tab : TabOk P Γ
  mixed : P.follows .mixedOrders = true

section
variable {P : Program} {Γ : Tab} {σ : Sto} {φ : Hd} {w : World} {B : Nat → Prop} {R : Type} {r : R}

theorem vr_int {k : IntKind} {n : Int} {v : Value} (h : VR P σ φ w B (.one (.ro (.int k) n)) v) : v = .int k n := ro_int (σ := σ) (φ := φ) h
theorem vr_bool {b : Bool} {v : Value} (h : VR P σ φ w B (.one (.ro .bool b)) v) : v = .bool b := ro_bool (σ := σ) (φ := φ) h
theorem vr_str {b : ByteArray} {v : Value} (h : VR P σ φ w B (.one (.ro .str b)) v) : v = .string b := ro_str (σ := σ) (φ := φ) h

theorem run_und {τ : TypeId} {u : TypeDesc} (h : P.underlying τ = some u) : (underlying τ).run P w = .ok u w := run_underlying h w
theorem run_info {τ : TypeId} {i : TypeInfo} (h : P.info? τ = some i) : (typeInfo τ).run P w = .ok i w := by simp [typeInfo, h]
theorem run_size {τ : TypeId} {i : TypeInfo} (h : P.info? τ = some i) : (sizeOf τ).run P w = .ok i.size w := by simp [sizeOf, run_info h]
theorem run_agg {τ : TypeId} {u : TypeDesc} (h : P.underlying τ = some u) : (isAgg τ).run P w = .ok (aggDesc u) w := by
  simp only [isAgg, Sem.run_bind, run_und h, Result.andThen_ok]
  cases u <;> rfl

theorem eqGuard_int {op : BinOp} {τ : TypeId} {x y : Operand} {k k' : IntKind} {a b : Int} : (eqGuard op τ x y (.int k a) (.int k' b)).run P w = .ok () w := by
  cases op <;> rfl
theorem eqGuard_bool {op : BinOp} {τ : TypeId} {x y : Operand} {a b : Bool} : (eqGuard op τ x y (.bool a) (.bool b)).run P w = .ok () w := by
  cases op <;> rfl

theorem sim_un {op : UnOp} {x : V} {vx : Value} {K : Kont R} (hx : VR P σ φ w B x vx) (h : unF op x K = some r) : Gives P σ φ w B (Op.unary op vx) K r := by
  unfold unF at h
  split at h
  · have := vr_bool hx; subst this
    exact ⟨_, _, h, cr_bool _, by simp [Op.unary]⟩
  · have := vr_int hx; subst this
    exact ⟨_, _, h, cr_int _ _, by simp [Op.unary, Op.intArith]⟩
  · cases h

theorem sim_pick {c a b : V} {vc va vb : Value} {K : Kont R} (hc : VR P σ φ w B c vc) (ha : VR P σ φ w B a va) (hb : VR P σ φ w B b vb) (h : pickF c a b K = some r) :
    Gives P σ φ w B (do pure (if ← asBool vc then va else vb)) K r := by
  unfold pickF at h
  split at h
  · rename_i x
    have := vr_bool hc; subst this
    cases x with
    | true => exact ⟨_, _, h, ha, by simp [asBool]⟩
    | false => exact ⟨_, _, h, hb, by simp [asBool]⟩
  · cases h

theorem sim_conv (hΓ : TabOk P Γ) {s d : TypeId} {x : V} {vx : Value} {K : Kont R} (hx : VR P σ φ w B x vx) (h : convF Γ s d x K = some r) : Gives P σ φ w B (convert s d vx) K r := by
  unfold convF at h
  split at h
  · rename_i hs hd
    obtain ⟨_, _, us, is⟩ := hΓ _ _ hs
    obtain ⟨_, _, ud, id⟩ := hΓ _ _ hd
    have := vr_int hx; subst this
    have e1 := is.int _ rfl
    have e2 := id.int _ rfl
    subst e1
    subst e2
    exact ⟨_, _, h, cr_int _ _, by simp [convert, run_und is.under, run_und id.under, Conv.intToInt]⟩
  · cases h

theorem comp_rel {p : Bool × List C} {v : Value} (h : CompR P σ φ w B p v) : VR P σ φ w B (ofComp p) v := by
  obtain ⟨us, hc, h⟩ := h
  obtain ⟨b, cs⟩ := p
  rcases h with ⟨hb, rfl⟩ | ⟨hb, rfl⟩
  · simp only at hb; subst hb
    exact ofCells_rel hc (by simp)
  · simp only at hb; subst hb
    exact ofCells_rel (b := false) hc (by simp)

theorem sim_extract {i : Nat} {x : V} {vx : Value} {K : Kont R} (hx : VR P σ φ w B x vx) (h : extractF i x K = some r) : Gives P σ φ w B (Instr.extract vx i) K r := by
  unfold extractF at h
  split at h
  · rename_i vs
    split at h
    · rename_i p hp
      obtain ⟨us, rfl, hl, hr⟩ := hx
      have hi : i < vs.length := by
        rw [List.getElem?_eq_some_iff] at hp
        exact hp.1
      have hu : us[i]? = some (us[i]'(by omega)) := List.getElem?_eq_getElem (by omega)
      refine ⟨_, us[i]'(by omega), h, comp_rel (hr i p _ hp hu), ?_⟩
      simp [Instr.extract, hu]
    · cases h
  · cases h

theorem part_run {u : TypeId} {d : TD} (hΓ : TabOk P Γ) (hu : Γ u = some d) (us : List Value) (o : Nat) (h : o + d.ty.n ≤ us.length) :
    (part u us.toArray o).run P w = .ok (cond d.ty.agg (.agg ((us.drop o).take d.ty.n).toArray) (((us.drop o).take d.ty.n).headD undef)) w := by
  obtain ⟨i, z, ud, I⟩ := hΓ _ _ hu
  simp only [part, Sem.run_bind, run_agg I.under, Result.andThen_ok, I.agg]
  cases ha : d.ty.agg with
  | true =>
    simp only [if_true, Sem.run_map, run_size I.info, Result.andThen_ok, I.size, cond_true, Sem.run_bind, Sem.run_pure]
    congr 2
    apply Array.ext'
    simp [List.extract_eq_take_drop]
  | false =>
    have hn := n_one ha
    rw [hn] at h ⊢
    have hlt : o < us.length := by omega
    have e : (us.drop o).take 1 = [us[o]] := by
      rw [List.drop_eq_getElem_cons hlt, List.take_succ_cons, List.take_zero]
    simp [hlt, e]

theorem partCs_rel {u : Ty} {o : Nat} {cs : List C} {us : List Value} (h : CsR P σ φ w B cs us) (hle : o + u.n ≤ us.length) :
    VR P σ φ w B (partCs u o cs) (cond u.agg (.agg ((us.drop o).take u.n).toArray) (((us.drop o).take u.n).headD undef)) := by
  refine ofCells_rel ((h.drop o).take u.n) fun ha => ?_
  rw [n_one ha] at hle ⊢
  simp
  omega

theorem rd_part {u : Ty} {us : List Value} {o : Nat} {y : u.T} (h : Rd P u w B ((us.drop o).take u.n) y) :
    VR P σ φ w B (roV u y) (cond u.agg (.agg ((us.drop o).take u.n).toArray) (((us.drop o).take u.n).headD undef)) := by
  have := roV_rel (σ := σ) (φ := φ) h
  simpa only [Ty.mk] using this

theorem sim_field (hΓ : TabOk P Γ) {s : TypeId} {f : Nat} {x : V} {vx : Value} {K : Kont R} (hx : VR P σ φ w B x vx) (h : fieldF Γ s f x K = some r) : Gives P σ φ w B (Instr.field s vx f) K r := by
  unfold fieldF at h
  split at h
  · rename_i t fs hs
    split at h
    · rename_i o u hf
      obtain ⟨i, z, ud, I⟩ := hΓ _ _ hs
      have hta : t.agg = true := by
        cases hta : t.agg with
        | true => rfl
        | false => have := I.plain hta; simp only at this; rw [this] at hf; simp at hf
      obtain ⟨fields, rfl, _, hfs⟩ := I.struct hta rfl
      obtain ⟨fl, h1, h2, ⟨d', h3, h4⟩, h5⟩ := hfs f o u hf
      subst h4
      subst h2
      split at h
      · rename_i cs
        obtain ⟨us, rfl, hc⟩ := hx
        obtain ⟨hb, hK⟩ := cond_some h
        have hl := beq_eq hb
        have hle : fl.offset + d'.ty.n ≤ us.length := by rw [hc.1, hl]; exact h5
        refine ⟨_, _, hK, partCs_rel hc hle, ?_⟩
        simp [Instr.field, run_und I.under, h1, asAgg, part_run hΓ h3 us _ hle]
      · rename_i a y
        obtain ⟨us, rfl, hr⟩ := hx
        obtain ⟨hb, hK⟩ := cond_some h
        have := tyb_eq hb
        subst this
        obtain ⟨z, hz, hK'⟩ := ob_some hK
        obtain ⟨hle, hy⟩ := proj_rel hr hz
        rw [mk_agg hta]
        have hle' : fl.offset + d'.ty.n ≤ us.length := by rw [hr.len]; exact hle
        refine ⟨_, _, hK', rd_part hy, ?_⟩
        simp [Instr.field, run_und I.under, h1, asAgg, part_run hΓ h3 us _ hle']
      · cases h
    · cases h
  · cases h

theorem inbC_lt {n : Nat} {i : Int} (h : inbC n i = true) : 0 ≤ i ∧ i < n := by
  unfold inbC at h
  split at h
  · have := blt_lt h
    constructor
    · exact Int.natCast_nonneg _
    · exact Int.ofNat_lt.2 this
  · cases h

theorem strIn_ok {b : ByteArray} {n : Int} (h : strIn b n = true) : 0 ≤ n ∧ n.toNat < b.size := by
  unfold strIn at h
  obtain ⟨h1, h2⟩ := Bool.and_eq_true_iff.1 h
  have h3 : 0 ≤ n := of_decide_eq_true h1
  have h4 : n < (b.size : Int) := of_decide_eq_true h2
  omega
theorem sim_index (hΓ : TabOk P Γ) {s : TypeId} {x i : V} {vx vi : Value} {K : Kont R} (hx : VR P σ φ w B x vx) (hi : VR P σ φ w B i vi) (h : indexF Γ s x i K = some r) :
    Gives P σ φ w B (Instr.index s vx vi) K r := by
  unfold indexF at h
  split at h
  · rename_i t fs e u len k n hs
    have := vr_int hi; subst this
    obtain ⟨hta, h⟩ := cond_some h
    obtain ⟨i, z, ud, I⟩ := hΓ _ _ hs
    obtain ⟨rfl, ⟨d', h3, h4⟩, h5⟩ := I.array hta e u len rfl
    subst h4
    have hsz : ∀ {n : Int}, inbC len n = true → n.toNat * d'.ty.n + d'.ty.n ≤ t.n := by
      intro n hn
      obtain ⟨h6, h7⟩ := inbC_lt hn
      have : (n.toNat + 1) * d'.ty.n ≤ len * d'.ty.n := Nat.mul_le_mul_right _ (by omega)
      simp only at h5
      rw [Nat.add_mul] at this
      omega
    obtain ⟨i', z', ud', I'⟩ := hΓ _ _ h3
    split at h
    · rename_i cs
      obtain ⟨us, rfl, hc⟩ := hx
      obtain ⟨hb, hK⟩ := cond_some h
      obtain ⟨hb1, hb2⟩ := both_true.1 hb
      have hl := beq_eq hb1
      have hle : n.toNat * d'.ty.n + d'.ty.n ≤ us.length := by rw [hc.1, hl]; exact hsz hb2
      refine ⟨_, _, hK, partCs_rel hc hle, ?_⟩
      obtain ⟨h6, h7⟩ := inbC_lt hb2
      simp [Instr.index, asIntOf, run_und I.under, h6, h7, run_size I'.info, I'.size, part_run hΓ h3 us _ hle]
    · rename_i a y
      obtain ⟨us, rfl, hr⟩ := hx
      obtain ⟨hb, hK⟩ := cond_some h
      obtain ⟨hb1, hb2⟩ := both_true.1 hb
      have := tyb_eq hb1
      subst this
      obtain ⟨z, hz, hK'⟩ := ob_some hK
      obtain ⟨hle, hy⟩ := proj_rel hr hz
      rw [mk_agg hta]
      have hle' : n.toNat * d'.ty.n + d'.ty.n ≤ us.length := by rw [hr.len]; exact hle
      obtain ⟨h6, h7⟩ := inbC_lt hb2
      refine ⟨_, _, hK', rd_part hy, ?_⟩
      simp [Instr.index, asIntOf, run_und I.under, h6, h7, run_size I'.info, I'.size, part_run hΓ h3 us _ hle']
    · cases h
  · rename_i fs k n hs
    have := vr_int hi; subst this
    split at h
    · rename_i b
      have := vr_str hx; subst this
      obtain ⟨hb, hK⟩ := chk_some h
      obtain ⟨i, z, ud, I⟩ := hΓ _ _ hs
      have := I.str rfl
      subst this
      obtain ⟨h3, h5⟩ := strIn_ok hb
      refine ⟨_, _, hK, cr_int _ _, ?_⟩
      simp [Instr.index, asIntOf, run_und I.under, h3, strAt, getElem?_pos b n.toNat h5]
    · cases h
  · cases h

theorem fieldPlace_run (a : Addr) (f : Field) {i : TypeInfo} (hi : P.info? f.type = some i) (h0 : i.size ≠ 0) : (fieldPlace a f).run P w = .ok (a.add f.offset) w := by
  unfold fieldPlace
  simp [run_size hi, h0]

theorem add_flat {g o k : Nat} : (⟨g, o, none⟩ : Addr).add k = ⟨g, o + k, none⟩ := by
  unfold Addr.add
  split <;> simp_all

theorem Cells.part {g o : Nat} {us : List Value} (h : Cells w g o us) (k n : Nat) (hle : k + n ≤ us.length) : Cells w g (o + k) ((us.drop k).take n) := by
  intro j hj
  have hj' : j < n := by simp at hj; omega
  have := h (k + j) (by omega)
  rw [← Nat.add_assoc] at this
  rw [this]
  simp

theorem sim_faddr (hΓ : TabOk P Γ) {s : TypeId} {f : Nat} {x : V} {vx : Value} {K : Kont R} (hx : VR P σ φ w B x vx) (h : faddrF Γ s f x K = some r) : Gives P σ φ w B (Instr.fieldAt s vx f) K r := by
  unfold faddrF at h
  split at h
  · rename_i t fs hs
    split at h
    · rename_i o u hf
      obtain ⟨i, z, ud, I⟩ := hΓ _ _ hs
      have hta : t.agg = true := by
        cases hta : t.agg with
        | true => rfl
        | false => have := I.plain hta; simp only at this; rw [this] at hf; simp at hf
      obtain ⟨fields, rfl, _, hfs⟩ := I.struct hta rfl
      obtain ⟨fl, h1, h2, ⟨d', h3, h4⟩, h5⟩ := hfs f o u hf
      subst h4
      subst h2
      obtain ⟨hz0, hm⟩ := cond_some h
      clear h
      have h := hm
      clear hm
      have hz0 := blt_lt hz0
      obtain ⟨ie, ze, ude, Ie⟩ := hΓ _ _ h3
      have hne : ie.size ≠ 0 := by rw [Ie.size]; omega
      split at h
      · rename_i id off
        obtain ⟨g, h6, rfl⟩ := hx
        exact ⟨_, .pointer (some ⟨g, off + fl.offset, none⟩), h, ⟨g, h6, rfl⟩, by simp [Instr.fieldAt, run_und I.under, h1, Instr.sureAddr, fieldPlace_run _ _ Ie.info hne, add_flat]⟩
      · rename_i id i sz off
        obtain ⟨g, o, n, c, h6, h7, h8, h9, rfl⟩ := hx
        exact ⟨_, .pointer (some ⟨g, o + i.toNat * sz + (off + fl.offset), none⟩), h, ⟨g, o, n, c, h6, h7, h8, h9, rfl⟩,
          by simp [Instr.fieldAt, run_und I.under, h1, Instr.sureAddr, fieldPlace_run _ _ Ie.info hne, add_flat, Nat.add_assoc]⟩
      · rename_i a y
        obtain ⟨g, o, us, rfl, hg, hl, hc, hr⟩ := hx
        obtain ⟨hb, hK⟩ := cond_some h
        have := tyb_eq hb
        subst this
        obtain ⟨z, hz, hK'⟩ := ob_some hK
        obtain ⟨hle, hy⟩ := proj_rel hr hz
        refine ⟨_, .pointer (some ⟨g, o + fl.offset, none⟩), hK', ⟨g, o + fl.offset, _, rfl, hg, hy.len, hc.part _ _ (by omega), hy⟩, ?_⟩
        simp [Instr.fieldAt, run_und I.under, h1, Instr.sureAddr, fieldPlace_run _ _ Ie.info hne, add_flat]
      · rename_i a y
        obtain ⟨vs, rfl, g, us, rfl, hg, hl, hc, hr⟩ := hx
        obtain ⟨hb, hK⟩ := cond_some h
        have := tyb_eq hb
        subst this
        obtain ⟨z, hz, hK'⟩ := ob_some hK
        obtain ⟨hle, hy⟩ := proj_rel hr hz
        refine ⟨_, .pointer (some ⟨g, 0 + fl.offset, none⟩), hK', ⟨g, 0 + fl.offset, _, rfl, hg, hy.len, hc.part _ _ (by omega), hy⟩, ?_⟩
        have e : (Ty.ptr a).mk [.pointer (some ⟨g, 0, none⟩)] = .pointer (some ⟨g, 0, none⟩) := rfl
        rw [e]
        simp [Instr.fieldAt, run_und I.under, h1, Instr.sureAddr, fieldPlace_run _ _ Ie.info hne, add_flat]
      · cases h
    · cases h
  · cases h

theorem inb_lt {α : Type} {xs : List α} {i : Int} (h : inb xs i = true) : 0 ≤ i ∧ i < xs.length := by
  obtain ⟨h1, h2⟩ := Bool.and_eq_true_iff.1 h
  exact ⟨of_decide_eq_true h1, of_decide_eq_true h2⟩

theorem run_indexAt {s e : TypeId} {k : IntKind} {n : Int} {a : Addr} {len c : Nat} {ie : TypeInfo} (hu : P.underlying s = some (.slice e)) (hie : P.info? e = some ie) (h0 : 0 ≤ n) (h1 : n < len) :
    (Instr.indexAt s (.slice (some a) len c) (.int k n)).run P w = .ok (.pointer (some (a.add (n.toNat * ie.size)))) w := by
  simp [Instr.indexAt, asIntOf, run_und hu, h0, h1, run_size hie]

theorem sim_iaddr (hΓ : TabOk P Γ) {β : Bl} {σr : Sto} (O : Obs P σ σr φ β w B) (hσ : ∀ id o, σr id = some o → σ id = some o) {s : TypeId} {x i : V} {vx vi : Value} {K : Kont R} (hx : VR P σ φ w B x vx) (hi : VR P σ φ w B i vi)
    (h : iaddrF Γ σr s x i K = some r) : Gives P σ φ w B (Instr.indexAt s vx vi) K r := by
  unfold iaddrF at h
  split at h
  · rename_i t fs e u len k n hs
    have := vr_int hi; subst this
    obtain ⟨i', z, ud, I⟩ := hΓ _ _ hs
    cases hta : t.agg with
    | true =>
      rw [hta] at h
      simp only [cond_true] at h
      obtain ⟨rfl, ⟨d', h3, h4⟩, h5⟩ := I.array hta e u len rfl
      subst h4
      obtain ⟨ie, ze, ude, Ie⟩ := hΓ _ _ h3
      have hsz : ∀ {n : Int}, inbC len n = true → n.toNat * d'.ty.n + d'.ty.n ≤ t.n := by
        intro n hn
        obtain ⟨h6, h7⟩ := inbC_lt hn
        have : (n.toNat + 1) * d'.ty.n ≤ len * d'.ty.n := Nat.mul_le_mul_right _ (by omega)
        simp only at h5
        rw [Nat.add_mul] at this
        omega
      split at h
      · rename_i id off
        obtain ⟨g, h6, rfl⟩ := hx
        obtain ⟨hb, hK⟩ := cond_some h
        obtain ⟨h7, h8⟩ := inbC_lt hb
        exact ⟨_, .pointer (some ⟨g, off + n.toNat * d'.ty.n, none⟩), hK, ⟨g, h6, rfl⟩,
          by simp [Instr.indexAt, asIntOf, run_und I.under, Instr.sureAddr, h7, h8, run_size Ie.info, Ie.size, add_flat]⟩
      · rename_i a y
        obtain ⟨g, o, us, rfl, hg, hl, hc, hr⟩ := hx
        obtain ⟨hb, hK⟩ := cond_some h
        obtain ⟨hb1, hb2⟩ := both_true.1 hb
        have := tyb_eq hb1
        subst this
        obtain ⟨z, hz, hK'⟩ := ob_some hK
        obtain ⟨hle, hy⟩ := proj_rel hr hz
        obtain ⟨h7, h8⟩ := inbC_lt hb2
        refine ⟨_, .pointer (some ⟨g, o + n.toNat * d'.ty.n, none⟩), hK', ⟨g, _, _, rfl, hg, hy.len, hc.part _ _ (by omega), hy⟩, ?_⟩
        simp [Instr.indexAt, asIntOf, run_und I.under, Instr.sureAddr, h7, h8, run_size Ie.info, Ie.size, add_flat]
      · rename_i id i0 sz off
        obtain ⟨g, o, n', c, h6, q1, q2, q3, rfl⟩ := hx
        obtain ⟨hb, hK⟩ := cond_some h
        obtain ⟨h7, h8⟩ := inbC_lt hb
        exact ⟨_, .pointer (some ⟨g, o + i0.toNat * sz + (off + n.toNat * d'.ty.n), none⟩), hK, ⟨g, o, n', c, h6, q1, q2, q3, rfl⟩,
          by simp [Instr.indexAt, asIntOf, run_und I.under, Instr.sureAddr, h7, h8, run_size Ie.info, Ie.size, add_flat, Nat.add_assoc]⟩
      · cases h
    | false =>
      rw [hta] at h
      simp only [cond_false] at h
      split at h
      · rename_i e' u' xs
        obtain ⟨us, rfl, hr⟩ := hx
        obtain ⟨hb, hK⟩ := cond_some h
        obtain ⟨hb1, hb2⟩ := both_true.1 hb
        obtain ⟨hb3, hK'⟩ := chk_some hK
        have := beq_eq hb1
        subst this
        have := tyb_eq hb2
        subst this
        have hty := I.elem hta _ _ _ rfl
        simp only at hty
        obtain ⟨rfl, _, d', h3, h4⟩ := I.list _ _ hty
        obtain ⟨ie, ze, ude, Ie⟩ := hΓ _ _ h3
        obtain ⟨h6, h7⟩ := inb_lt hb3
        obtain ⟨A, c, rfl, hc, hread⟩ := hr
        obtain ⟨g, o, rfl, hg, hi⟩ := hread (by omega)
        obtain ⟨hlt, hrd⟩ := rd_at h6 h7
        obtain ⟨us, h8, h9, h10⟩ := hi n.toNat hlt
        rw [← hrd] at h10
        refine ⟨_, .pointer (some ⟨g, o + n.toNat * u'.n, none⟩), hK', ⟨g, _, us, rfl, hg, h8, h9, h10⟩, ?_⟩
        have := run_indexAt (P := P) (w := w) (k := k) (a := ⟨g, o, none⟩) (c := c) I.under Ie.info h6 h7
        rw [add_flat, Ie.size, h4] at this
        exact this
      · rename_i id
        split at h
        · rename_i e' u' m xs hv ho
          obtain ⟨hb, hK⟩ := cond_some h
          obtain ⟨hb1, hb2⟩ := both_true.1 hb
          obtain ⟨hb3, hK'⟩ := chk_some hK
          have := beq_eq hb1
          subst this
          have := tyb_eq hb2
          subst this
          have hty := I.elem hta _ _ _ rfl
          simp only at hty
          obtain ⟨rfl, _, d', h3, h4⟩ := I.list _ _ hty
          obtain ⟨ie, ze, ude, Ie⟩ := hΓ _ _ h3
          obtain ⟨h6, h7⟩ := inb_lt hb3
          obtain ⟨hφ, _⟩ := hx
          obtain ⟨v, h1, h2⟩ := O.slice ho e'
          rw [hφ] at h1
          injection h1 with h1
          subst h1
          obtain ⟨A, c, he, hc, hread⟩ := h2
          injection he with he
          subst he
          obtain ⟨g, o, rfl, hg, hi⟩ := hread (by omega)
          refine ⟨_, .pointer (some ⟨g, o + n.toNat * u'.n, none⟩), hK', ⟨g, o, _, c, hφ, h6, h7, fun e t m xs' hv hole hs => ?_, rfl⟩, ?_⟩
          · rw [hσ _ _ ho] at hs
            injection hs with hs
            injection hs with _ hs
            rw [hs]
          · have := run_indexAt (P := P) (w := w) (k := k) (a := ⟨g, o, none⟩) (c := c) I.under Ie.info h6 h7
            rw [add_flat, Ie.size, h4] at this
            exact this
        · rename_i e' u' xs hv hl ho
          obtain ⟨hb, hK⟩ := cond_some h
          obtain ⟨hb1, hb2⟩ := both_true.1 hb
          obtain ⟨hb3, hK'⟩ := chk_some hK
          have := beq_eq hb1
          subst this
          have := tyb_eq hb2
          subst this
          have hty := I.elem hta _ _ _ rfl
          simp only at hty
          obtain ⟨rfl, _, d', h3, h4⟩ := I.list _ _ hty
          obtain ⟨ie, ze, ude, Ie⟩ := hΓ _ _ h3
          obtain ⟨h6, h7⟩ := inb_lt hb3
          obtain ⟨hφ, _⟩ := hx
          obtain ⟨v, h1, h2⟩ := O id _ ho
          rw [hφ] at h1
          injection h1 with h1
          subst h1
          have h2' : Ow P w B vx u' .deep xs (some hl) (β id) := h2
          cases u' with
          | list a b =>
            have h3' : OwD P b w B vx xs (some hl) (β id) := h2'
            rcases h3' with ⟨_, hx0, _⟩ | ⟨g, o, c, cur, ee, bss, rfl, _⟩
            · rw [hx0] at h7
              simp at h7
              omega
            · refine ⟨_, .pointer (some ⟨g, o + n.toNat * (Ty.list a b).n + 0, none⟩), hK', ⟨g, o, _, c, hφ, h6, h7, fun e t m xs' hv hole hs => ?_, rfl⟩, ?_⟩
              · rw [hσ _ _ ho] at hs
                injection hs with hs
                injection hs with _ hs
                rw [hs]
              · have := run_indexAt (P := P) (w := w) (k := k) (a := ⟨g, o, none⟩) (c := c) I.under Ie.info h6 h7
                rw [add_flat, Ie.size, h4] at this
                exact this
          | _ => exact False.elim h2'
        · cases h
      · rename_i id sz lo hi
        split at h
        · rename_i e' u' m xs hv ho
          obtain ⟨hb, hK⟩ := cond_some h
          obtain ⟨hb1, hb2⟩ := both_true.1 hb
          obtain ⟨hb3, hK'⟩ := chk_some hK
          have := beq_eq hb1
          subst this
          have := tyb_eq hb2
          subst this
          have hty := I.elem hta _ _ _ rfl
          simp only at hty
          obtain ⟨rfl, _, d', h3, h4⟩ := I.list _ _ hty
          obtain ⟨ie, ze, ude, Ie⟩ := hΓ _ _ h3
          obtain ⟨A, n', c, A2, hφ, h8, h9, h10, h11, h12, hsa, rfl⟩ := hx
          obtain ⟨h6, h7⟩ := Bool.and_eq_true_iff.1 hb3
          replace h6 := of_decide_eq_true h6
          replace h7 := of_decide_eq_true h7
          obtain ⟨v, h1, h2⟩ := O.slice ho e'
          rw [hφ] at h1
          injection h1 with h1
          subst h1
          obtain ⟨A', c', he, hc, hread⟩ := h2
          injection he with he
          injection he with e1 e2 e3
          subst e1
          subst e2
          subst e3
          obtain ⟨g, o, rfl, hg, _⟩ := hread (by omega)
          have := h12 _ _ _ _ _ _ (hσ _ _ ho)
          subst this
          have hne : c ≠ lo.toNat := by omega
          obtain ⟨q, _, hq, rfl⟩ := hsa
          have := hq hne
          subst this
          refine ⟨_, .pointer (some ⟨g, o + (lo + n).toNat * u'.n + 0, none⟩), hK', ⟨g, o, _, c, hφ, by omega, by omega, h12, rfl⟩, ?_⟩
          have := run_indexAt (P := P) (w := w) (k := k) (a := (⟨g, o + lo.toNat * u'.n, none⟩ : Addr)) (c := c - lo.toNat) (len := (hi - lo).toNat) (n := n) I.under Ie.info h6 (by omega)
          rw [add_flat, Ie.size, h4] at this
          simp only [Option.map_some, add_flat]
          rw [this]
          congr 4
          have : (lo + n).toNat = lo.toNat + n.toNat := by omega
          rw [this, Nat.add_mul]
          omega
        · cases h
      · rename_i id j hv
        split at h
        · rename_i e0 e' u' xs hv' ho
          obtain ⟨hb, hK⟩ := cond_some h
          obtain ⟨hb1, hb2⟩ := both_true.1 hb
          obtain ⟨hb3, hb4⟩ := both_true.1 hb1
          obtain ⟨hb5, hb6⟩ := both_true.1 hb2
          obtain ⟨hb7, hK'⟩ := chk_some hK
          have := beq_eq hb3
          subst this
          have := tyb_eq hb4
          subst this
          have := beq_eq hb5
          subst this
          have hn1 := beq_eq hb6
          have hty := I.elem hta _ _ _ rfl
          simp only at hty
          obtain ⟨rfl, _, d', h3, h4⟩ := I.list _ _ hty
          obtain ⟨ie, ze, ude, Ie⟩ := hΓ _ _ h3
          obtain ⟨h6, h7⟩ := inb_lt hb7
          obtain ⟨v, h1, h2⟩ := O id _ ho
          obtain ⟨hone, hp, hle, hx⟩ := hx
          obtain ⟨g, o, n', c, h8, h9, h10, h11⟩ := hx _ _ _ _ _ (hσ _ _ ho)
          rw [h8] at h1
          injection h1 with h1
          subst h1
          have h2' : OwD P u' w B _ xs none (β id) := h2
          rcases h2' with ⟨hx, _⟩ | ⟨g', o', c', cur, e'', bss, hx, h12, h13, h14, h15, h16, h17⟩
          · cases hx
          · injection hx with hx1 hx2 hx3
            injection hx1 with hx1
            injection hx1 with hx1 hx4
            subst hx1
            subst hx4
            obtain ⟨hlt, hrd⟩ := rd_at (t := .list e' u') (xs := xs) h9 (by omega)
            obtain ⟨u, h18, _, h19⟩ := h17 j.toNat hlt
            rw [cell_of_heap h12, h18] at h11
            injection h11 with h11
            subst h11
            rw [hrd] at h7
            rcases h19 with ⟨h, _⟩ | ⟨b, h20, h21⟩
            · cases h
            · rcases h21 with ⟨rfl, hnil, _⟩ | ⟨g2, o2, c2, cur2, e2, rfl, h22, h23, h24, h25, h26⟩
              · rw [hnil] at h7
                simp at h7
                omega
              · refine ⟨_, .pointer (some ⟨g2, o2 + n.toNat, none⟩), hK', ⟨rfl, hp, hle, fun e a b xs' hole hs => ?_⟩, ?_⟩
                · exact ⟨g, o, n', c, g2, o2, _, c2, h8, h9, h10, by rw [cell_of_heap h12]; exact h18, h6, h7, rfl⟩
                · have := run_indexAt (P := P) (w := w) (k := k) (a := (⟨g2, o2, none⟩ : Addr)) (c := c2) (n := n) I.under Ie.info h6 h7
                  rw [add_flat, Ie.size, h4, hn1, Nat.mul_one] at this
                  exact this
        · cases h
      · cases h
  · cases h


theorem run_loadVar (hΓ : TabOk P Γ) {s : TypeId} {d : TD} (hs : Γ s = some d) {g o : Nat} {us : List Value} (hl : us.length = d.ty.n) (hc : Cells w g o us) :
    (Instr.loadAt s (.pointer (some ⟨g, o, none⟩))).run P w = .ok (d.ty.mk us) w := by
  obtain ⟨i, z, ud, I⟩ := hΓ _ _ hs
  cases ha : d.ty.agg with
  | true =>
    have := run_loadCells_list (P := P) w ⟨g, o, none⟩ us (fun j v hv => by
      obtain ⟨hj, rfl⟩ := List.getElem?_eq_some_iff.1 hv
      rw [add_flat]
      exact hc j hj)
    rw [hl] at this
    have hi := I.agg
    rw [ha] at hi
    simp [Instr.loadAt, Instr.sureAddr, loadVar, run_agg I.under, hi, run_size I.info, I.size, this, mk_agg ha]
  | false =>
    rw [n_one ha] at hl
    obtain ⟨u, rfl⟩ := List.length_eq_one_iff.1 hl
    have := hc 0 (by simp)
    simp only [Nat.add_zero, List.getElem_cons_zero] at this
    have hi := I.agg
    rw [ha] at hi
    simp [Instr.loadAt, Instr.sureAddr, loadVar, run_agg I.under, hi, this, mk_one ha]

theorem cells_heap {g : Nat} {cur : Array Value} {e : TypeId} {fz : Nat × Nat} (h : w.heap[g]? = some (.cells cur e fz)) (o n : Nat) (hle : o + n ≤ cur.size) : Cells w g o ((cur.toList.drop o).take n) := by
  intro j hj
  have hj' : j < n := by simp at hj; omega
  rw [cell_of_heap h]
  simp [List.getElem?_eq_getElem, show o + j < cur.size by omega]

theorem mk_def (t : Ty) (us : List Value) : t.mk us = cond t.agg (.agg us.toArray) (us.headD undef) := rfl

theorem Ow.elem {t : Ty} {m : Mo} {v : Value} {xs : List t.T} {bs : List Nat} {g o n c : Nat} {i : Int} (h : Ow P w B v t m xs none bs) (hm : m = .deep → t.isList = true → False)
    (h0 : 0 ≤ i) (h1 : i < n) (hv : v = .slice (some ⟨g, o, none⟩) n c) : ∃ us, us.length = t.n ∧ Cells w g (o + i.toNat * t.n) us ∧ Rd P t w B us (PV.rd t xs i) := by
  have fromRd : ∀ {e : TypeId}, Rd P (.list e t) w B [v] xs → ∃ us, us.length = t.n ∧ Cells w g (o + i.toNat * t.n) us ∧ Rd P t w B us (PV.rd t xs i) := by
    intro e h
    obtain ⟨A, c', he, hc', hread⟩ := h
    rw [hv] at he
    injection he with he
    injection he with e1 e2 e3
    subst e1
    subst e2
    obtain ⟨g2, o2, hA, hg, hi⟩ := hread (by omega)
    injection hA with hA
    injection hA with hA1 hA2
    subst hA1
    subst hA2
    obtain ⟨hlt, hrd⟩ := rd_at (t := t) h0 h1
    obtain ⟨us, h2, h3, h4⟩ := hi _ hlt
    exact ⟨us, h2, h3, by rw [hrd]; exact h4⟩
  cases m with
  | fro => exact fromRd h.1
  | own =>
    have h' : OwL P t w B v xs bs := h
    rcases h' with ⟨rfl, _, _⟩ | ⟨g', o', c', cur, e', rfl, h2, h3, h4, h5, h6⟩
    · cases hv
    · injection hv with e1 e2 e3
      injection e1 with e1
      injection e1 with e4 e5
      subst e4
      subst e5
      subst e2
      obtain ⟨hlt, hrd⟩ := rd_at (t := t) (xs := xs) h0 h1
      obtain ⟨us, h7, h8, h9⟩ := h6 _ hlt
      exact ⟨us, h7, fun j hj => by rw [cell_of_heap h2]; exact h8 j hj, by rw [hrd]; exact h9⟩
  | deep =>
    cases t <;> first | exact False.elim h | exact False.elim (hm rfl rfl)

theorem OwD.elem {t : Ty} {v : Value} {xs : List (List t.T)} {bs : List Nat} {g o n c : Nat} {i : Int} {e : TypeId} (h : OwD P t w B v xs none bs)
    (h0 : 0 ≤ i) (h1 : i < n) (hv : v = .slice (some ⟨g, o, none⟩) n c) :
    i.toNat < xs.length ∧ ∃ u b, w.cell? ⟨g, o + i.toNat, none⟩ = some u ∧ (∀ x ∈ b, x ∈ bs) ∧ OwL P t w B u (PV.rd (.list e t) xs i) b := by
  rcases h with ⟨rfl, _⟩ | ⟨g', o', c', cur, e', bss, rfl, h7, h8, h9, h10, h11, h12⟩
  · cases hv
  · injection hv with e1 e2 e3
    injection e1 with e1
    injection e1 with e4 e5
    subst e4
    subst e5
    subst e2
    obtain ⟨hlt, hrd⟩ := rd_at (t := .list e t) (xs := xs) h0 h1
    obtain ⟨u, h13, h14, h15⟩ := h12 _ hlt
    rcases h15 with ⟨h, _⟩ | ⟨b, h16, h17⟩
    · cases h
    · refine ⟨hlt, u, b, by rw [cell_of_heap h7]; exact h13, fun x hx => ?_, by rw [hrd]; exact h17⟩
      rw [h10]
      exact List.mem_cons_of_mem _ (List.mem_flatten.2 ⟨b, List.mem_of_getElem? h16, hx⟩)

theorem sim_load (hΓ : TabOk P Γ) {β : Bl} {σr : Sto} (O : Obs P σ σr φ β w B) (hσ : ∀ id o, σr id = some o → σ id = some o) {new : Option Id} {s : TypeId} {x : V} {vx : Value} {K : Kont R} (hx : VR P σ φ w B x vx) (hopn : ∀ id off a y, x = .one (.adr id off) → σr id ≠ some (.mbox a y)) (h : loadF Γ σr new s x K = some r) :
    Gives P σ φ w B (Instr.loadAt s vx) K r := by
  unfold loadF at h
  split at h
  · rename_i d hs
    split at h
    · rename_i id off
      split at h
      · rename_i cs ho
        obtain ⟨hb, hK⟩ := cond_some h
        have hle := ble_le hb
        obtain ⟨v, h1, g, cur, e, rfl, h3, h4, h5⟩ := O id _ ho
        obtain ⟨g', h6, rfl⟩ := hx
        rw [h6] at h1
        injection h1 with h1
        injection h1 with h1
        injection h1 with h1
        injection h1 with h1
        subst h1
        have hle' : off + d.ty.n ≤ cur.toList.length := by rw [h5.1]; exact hle
        refine ⟨_, _, hK, partCs_rel h5 hle', ?_⟩
        rw [← mk_def]
        exact run_loadVar hΓ hs (by simp; simpa using (by simpa using hle' : off + d.ty.n ≤ cur.size) |> fun h => by omega) (cells_heap h3 _ _ (by simpa using hle'))
      · rename_i a y ho
        exact absurd ho (hopn _ _ _ _ rfl)
      · cases h
    · rename_i f caps
      obtain ⟨hb, hK⟩ := cond_some h
      obtain ⟨hb1, hb2⟩ := both_true.1 hb
      obtain ⟨g, u, rfl, hg, hc, hr⟩ := hx
      refine ⟨_, u, hK, hr, ?_⟩
      have h1 := run_loadVar (P := P) (w := w) (g := g) (o := 0) (us := [u]) hΓ hs (beq_eq hb1).symm (fun j hj => by
        have : j = 0 := by simp at hj; omega
        subst this
        simpa using hc)
      rw [mk_one (no_true.1 hb2)] at h1
      exact h1
    · rename_i t y
      obtain ⟨vs, rfl, g, us, rfl, hg, hl, hc, hr⟩ := hx
      obtain ⟨z, hz, hK'⟩ := ob_some h
      obtain ⟨hle, hy⟩ := proj_rel hr hz
      refine ⟨_, _, hK', roV_rel hy, ?_⟩
      have := hc.part 0 d.ty.n (by omega)
      exact run_loadVar hΓ hs hy.len this
    · rename_i a y
      obtain ⟨g, o, us, rfl, hg, hl, hc, hr⟩ := hx
      obtain ⟨hb, hK⟩ := cond_some h
      have e := tyb_eq hb
      refine ⟨_, _, hK, roV_rel hr, ?_⟩
      rw [e]
      exact run_loadVar hΓ hs (by rw [hl, e]) hc
    · rename_i id i sz off
      split at h
      · rename_i o ho
        obtain ⟨v, hv, hK⟩ := ob_some h
        obtain ⟨g, o', n, c, h1, h2, h3, h4, rfl⟩ := hx
        obtain ⟨v', h5, h6⟩ := O id o ho
        rw [h1] at h5
        injection h5 with h5
        subst h5
        unfold loadEl at hv
        split at hv
        · rename_i e t m xs hvn
          split at hv
          · rename_i e2 a xs
            obtain ⟨hb, hv2⟩ := cond_some hv
            clear hv
            obtain ⟨hb1, hb2⟩ := both_true.1 hb
            have := beq_eq hb1
            subst this
            have hty := tyb_eq hb2
            injection hv2 with hv2
            subst hv2
            have hsz := h4 _ _ _ _ _ _ (hσ _ _ ho)
            simp only [Ty.n] at hsz
            subst hsz
            have h6' : OwD P a w B _ xs none (β id) := h6
            rcases h6' with ⟨hx, _⟩ | ⟨g', o'', c', cur, e', bss, hx, h7, h8, h9, h10, h11, h12⟩
            · cases hx
            · injection hx with hx1 hx2 hx3
              injection hx1 with hx1
              injection hx1 with hx1 hx4
              subst hx1
              subst hx4
              obtain ⟨u, h13, h14, _⟩ := h12 i.toNat (by omega)
              have hcell : w.cell? ⟨g, o' + i.toNat, none⟩ = some u := by rw [cell_of_heap h7]; exact h13
              refine ⟨_, u, hK, ⟨h14, by rw [h1]; simp, fun e t m xs' hv' hole hs => ?_, fun e a' b xs' hole hs => ⟨g, o', n, c, h1, h2, h3, hcell⟩⟩, ?_⟩
              · rw [hσ _ _ ho] at hs
                injection hs with hs
                injection hs
                omega
              · have := run_loadVar (P := P) (w := w) (g := g) (o := o' + i.toNat * 1 + 0) (us := [u]) hΓ hs (by rw [hty]; rfl) (fun j hj => by
                  have : j = 0 := by simp at hj; omega
                  subst this
                  simpa using hcell)
                rw [hty] at this
                exact this
          · rename_i t' xs' hnd
            obtain ⟨z, hz, hv2⟩ := ob_some hv
            injection hv2 with hv2
            subst hv2
            have hsz := h4 _ _ _ _ _ _ (hσ _ _ ho)
            subst hsz
            obtain ⟨us, h7, h8, h9⟩ := Ow.elem h6 (fun hm ht => by
              cases t with
              | list e2 a => exact hnd e2 a xs rfl HEq.rfl hm
              | _ => simp [Ty.isList] at ht) h2 h3 rfl
            obtain ⟨hle, hy⟩ := proj_rel h9 hz
            refine ⟨_, _, hK, roV_rel hy, ?_⟩
            exact run_loadVar hΓ hs hy.len (h8.part off d.ty.n (by omega))
        · cases hv
      · cases h
    · rename_i id j i hv
      split at h
      · rename_i e0 e t xs hv' ho
        obtain ⟨hb, hK⟩ := cond_some h
        obtain ⟨hb1, hb2⟩ := both_true.1 hb
        have := beq_eq hb1
        subst this
        have hty := tyb_eq hb2
        subst hty
        obtain ⟨hone, hp, hle, hx⟩ := hx
        obtain ⟨g, o, n, c, g2, o2, n2, c2, h1, h2, h3, h4, h5, h6, rfl⟩ := hx _ _ _ _ _ (hσ _ _ ho)
        obtain ⟨v', h7, h8⟩ := O id _ ho
        rw [h1] at h7
        injection h7 with h7
        subst h7
        obtain ⟨hlt, u, b, h9, h10, h11⟩ := OwD.elem (e := e) h8 h2 h3 rfl
        rw [h4] at h9
        injection h9 with h9
        subst h9
        obtain ⟨us, h12, h13, h14⟩ := Ow.elem (m := .own) h11 (by simp) h5 h6 rfl
        obtain ⟨hn1, hK⟩ := cond_some hK
        have hn1 := beq_eq hn1
        rw [hn1, Nat.mul_one] at h13
        refine ⟨_, _, hK, roV_rel h14, ?_⟩
        exact run_loadVar hΓ hs h12 h13
      · cases h
    · cases h
  · cases h

end
end Go.PV
