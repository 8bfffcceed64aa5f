/- A region that draws its order, walked once: the theorem. A general part, over any program. -/
import Derived.Test.YtcbecpjhgfkofaaAL16
set_option linter.unusedSimpArgs false
set_option linter.unusedVariables false
namespace Go.AL
open Go.RowKit

structure Info where
  o : Oper
  w : List Nat
  rid : List Nat
  id : Nat

def rids (σ : St) (o : Oper) : List Nat := o.op.operands.toList.flatMap fun x => (σ.ev x).ids

inductive RunI (P : Program) (tb : Tb) (N : Nat) (ops : Array Oper) : List Oper → Nat → St → List Rec → List Info → St → Prop
  | nil (id : Nat) (σ : St) : RunI P tb N ops [] id σ [] [] σ
  | cons {o : Oper} {r : List Oper} {id : Nat} {σ σ' : St} {e : Eff} {rs : List Rec} {is : List Info} (hd : ∀ k, o.dst = some k → k < N) (h : stepR P tb ops id σ o e) (hr : RunI P tb N ops r (id + 16) (σ.app o.dst e) rs is σ') :
      RunI P tb N ops (o :: r) id σ ((o.dst, e) :: rs) (⟨o, e.upds.map (·.1), rids σ o, id⟩ :: is) σ'

theorem mrg_lt (k : Nat) : ∀ (rs : List Rec) (m : Nat) (σ : St), k ≤ m → mrg (fun j => decide (j < k)) m rs σ = σ
  | [], _, _, _ => rfl
  | r :: rs, m, σ, h => by
    simp only [mrg]
    rw [show decide (m < k) = false by simp; omega]
    exact mrg_lt k rs (m + 1) σ (by omega)

theorem RunI.at {P : Program} {tb : Tb} {N : Nat} {ops : Array Oper} {l : List Oper} {id : Nat} {σ σ' : St} {rs : List Rec} {is : List Info} (h : RunI P tb N ops l id σ rs is σ') :
    ∀ (k i : Nat) (o : Oper), l[i]? = some o → ∃ e, rs[i]? = some (o.dst, e) ∧ (∀ k, o.dst = some k → k < N) ∧
      is[i]? = some ⟨o, e.upds.map (·.1), rids (mrg (fun j => decide (j < k + i)) k rs σ) o, id + 16 * i⟩ ∧ stepR P tb ops (id + 16 * i) (mrg (fun j => decide (j < k + i)) k rs σ) o e := by
  induction h with
  | nil => intro k i o h; simp at h
  | @cons o r id σ σ' e rs is hd h hr ih =>
    intro k i o' ho
    cases i with
    | zero =>
      have eo : o = o' := by simpa using ho
      subst eo
      refine ⟨e, rfl, hd, ?_, ?_⟩
      · rw [mrg_lt (k + 0) _ k σ (by omega)]; rfl
      · rw [mrg_lt (k + 0) _ k σ (by omega)]; exact h
    | succ i =>
      obtain ⟨e', h1, h2, h3, h4⟩ := ih (k + 1) i o' (by simpa using ho)
      have em : mrg (fun j => decide (j < k + (i + 1))) k ((o.dst, e) :: rs) σ = mrg (fun j => decide (j < k + 1 + i)) (k + 1) rs (σ.app o.dst e) := by
        simp only [mrg]
        rw [show k + (i + 1) = k + 1 + i by omega, show decide (k < k + 1 + i) = true by simp; omega]
        rfl
      rw [em, show id + 16 * (i + 1) = id + 16 + 16 * i by omega]
      exact ⟨e', by simpa using h1, h2, by simpa using h3, h4⟩

theorem RunI.len {P : Program} {tb : Tb} {N : Nat} {ops : Array Oper} {l : List Oper} {id : Nat} {σ σ' : St} {rs : List Rec} {is : List Info} (h : RunI P tb N ops l id σ rs is σ') : rs.length = l.length ∧ is.length = l.length := by
  induction h with
  | nil => exact ⟨rfl, rfl⟩
  | cons _ _ _ ih => exact ⟨by simp [ih.1], by simp [ih.2]⟩

theorem RunI.last {P : Program} {tb : Tb} {N : Nat} {ops : Array Oper} {l : List Oper} {id : Nat} {σ σ' : St} {rs : List Rec} {is : List Info} (h : RunI P tb N ops l id σ rs is σ') (S : Nat → Bool) :
    ∀ k, (∀ j, k ≤ j → j < k + l.length → S j = true) → mrg S k rs σ = σ' := by
  induction h with
  | nil => intro k _; rfl
  | cons _ _ _ ih =>
    intro k hS
    simp only [mrg]
    rw [hS k (Nat.le_refl _) (by simp)]
    exact ih (k + 1) fun j h1 h2 => hS j (by omega) (by simp at h2 ⊢; omega)

/-! ### The look at a pair of operations -/

def waitsOn (o : Oper) (i : Nat) : Bool := o.after.any fun e => Region.binds .any e && e.on == i
def outside (id j : Nat) : Bool := decide (j < id) || decide (id + 16 ≤ j)
def chkPair (ops : Array Oper) (i : Nat) (x y : Info) : Bool :=
  waitsOn y.o i || (x.o.apart ops y.o && (x.w.all fun j => !(y.rid.contains j) && !(y.w.contains j) && outside y.id j) && y.w.all fun j => !(x.rid.contains j) && outside x.id j)
def chkOne (ops : Array Oper) (i : Nat) (x : Info) : List Info → Bool
  | [] => true
  | y :: r => chkPair ops i x y && chkOne ops i x r
def chkBack (o : Oper) (i : Nat) : Bool := o.after.all fun e => !Region.binds .any e || decide (e.on < i)
def chkAll (ops : Array Oper) : Nat → List Info → Bool
  | _, [] => true
  | i, x :: r => chkOne ops i x r && chkBack x.o i && chkAll ops (i + 1) r

theorem chkOne_at {ops : Array Oper} {i : Nat} {x : Info} : ∀ {l : List Info}, chkOne ops i x l = true → ∀ (j : Nat) (y : Info), l[j]? = some y → chkPair ops i x y = true
  | [], _, j, y, h => by simp at h
  | z :: l, hc, j, y, h => by
    simp only [chkOne, Bool.and_eq_true] at hc
    cases j with
    | zero => have : z = y := by simpa using h
              subst this; exact hc.1
    | succ j => exact chkOne_at hc.2 j y (by simpa using h)

theorem chkAll_at {ops : Array Oper} : ∀ {l : List Info} {k : Nat}, chkAll ops k l = true → ∀ (i : Nat) (x : Info), l[i]? = some x → chkBack x.o (k + i) = true ∧ ∀ (j : Nat) (y : Info), i < j → l[j]? = some y → chkPair ops (k + i) x y = true
  | [], _, _, i, x, h => by simp at h
  | z :: l, k, hc, i, x, h => by
    simp only [chkAll, Bool.and_eq_true] at hc
    cases i with
    | zero =>
      have : z = x := by simpa using h
      subst this
      refine ⟨hc.1.2, fun j y hj hy => ?_⟩
      cases j with
      | zero => omega
      | succ j => exact chkOne_at hc.1.1 j y (by simpa using hy)
    | succ i =>
      obtain ⟨h1, h2⟩ := chkAll_at hc.2 i x (by simpa using h)
      rw [show k + 1 + i = k + (i + 1) by omega] at h1 h2
      refine ⟨h1, fun j y hj hy => ?_⟩
      cases j with
      | zero => omega
      | succ j => exact h2 j y (by omega) (by simpa using hy)

theorem chkBack_spec {o : Oper} {i : Nat} (h : chkBack o i = true) : ∀ e, e ∈ o.after → Region.binds .any e = true → e.on < i := by
  intro e he hb
  unfold chkBack at h
  rw [Array.all_eq_true_iff_forall_mem] at h
  have := h e he
  rw [hb] at this
  simpa using this

theorem waitsOn_spec {o : Oper} {i : Nat} (h : waitsOn o i = true) : ∃ e, e ∈ o.after ∧ Region.binds .any e = true ∧ e.on = i := by
  unfold waitsOn at h
  rw [Array.any_eq_true'] at h
  obtain ⟨e, he, h⟩ := h
  simp only [Bool.and_eq_true, beq_iff_eq] at h
  exact ⟨e, he, h.1, h.2⟩

theorem apart_of_pair {ops : Array Oper} {i : Nat} {x y : Info} (h : chkPair ops i x y = true) (hn : waitsOn y.o i = false) :
    x.o.apart ops y.o = true ∧ (∀ j, j ∈ x.w → j ∉ y.rid ∧ j ∉ y.w ∧ (j < y.id ∨ y.id + 16 ≤ j)) ∧ ∀ j, j ∈ y.w → j ∉ x.rid ∧ (j < x.id ∨ x.id + 16 ≤ j) := by
  unfold chkPair at h
  rw [hn, Bool.false_or, Bool.and_eq_true, Bool.and_eq_true] at h
  obtain ⟨⟨h1, h2⟩, h3⟩ := h
  refine ⟨h1, fun j hj => ?_, fun j hj => ?_⟩
  · have := List.all_eq_true.1 h2 j hj
    simpa [outside, Bool.and_eq_true, and_assoc] using this
  · have := List.all_eq_true.1 h3 j hj
    simpa [outside, Bool.and_eq_true] using this

theorem countP_set {l : List Bool} : ∀ {i : Nat}, l[i]? = some false → (l.set i true).countP (! ·) + 1 = l.countP (! ·) := by
  induction l with
  | nil => intro i h; simp at h
  | cons b l ih =>
    intro i h
    cases i with
    | zero =>
      have : b = false := by simpa using h
      subst this
      simp
    | succ i =>
      have := ih (i := i) (by simpa using h)
      simp only [List.set_cons_succ, List.countP_cons]
      omega

def looks (ops : Array Oper) (o : Oper) : List Operand := o.op.operands.toList

section
variable {P : Program} {cx : Cx} {tb : Tb} {ops : Array Oper} {id : Nat} {σ σ' : St} {rs : List Rec} {is : List Info}

theorem stepR_congr {τ τ' : St} {o : Oper} {e : Eff} {id : Nat} (ha : Agr τ τ' o.op.operands.toList) (hid : ∀ j, id ≤ j → j < id + 16 → τ.objs j = τ'.objs j)
    (hg : ∀ d, d ∈ o.looksAt ops → τ.tmps d = τ'.tmps d) (h : stepR P tb ops id τ o e) : stepR P tb ops id τ' o e := by
  have hc := eff_congr (tb := tb) (P := P) (id := id) (d := o.dst) ha (hid id (Nat.le_refl _) (by omega))
  have inL : ∀ c, callOf o.op = some c → ∀ p, p ∈ c.2.1.zip c.2.2 → p.1 ∈ o.op.operands.toList := by
    intro c hc p hp
    have := (List.of_mem_zip hp).1
    rw [callOf_spec hc]
    simp [Op.operands, Call.operands]
    exact .inr this
  have args : ∀ c, callOf o.op = some c → argC τ tb (c.2.1.zip c.2.2) = argC τ' tb (c.2.1.zip c.2.2) ∧ argD τ tb (c.2.1.zip c.2.2) = argD τ' tb (c.2.1.zip c.2.2) := by
    intro c hc
    exact ⟨ha.argC tb _ (inL c hc), ha.argD tb _ (inL c hc)⟩
  unfold stepR at h ⊢
  cases hgd : o.guard with
  | none =>
    rw [hgd] at h
    simp only at h ⊢
    cases hcl : callOf o.op with
    | none =>
      rw [hcl] at h
      exact ⟨by rw [← hc.2]; exact h.1, by rw [← hc.1]; exact h.2⟩
    | some c =>
      rw [hcl] at h
      obtain ⟨h1, h2⟩ := h
      exact ⟨h1, ha.callR (inL c hcl) hid h2⟩
  | some g =>
    rw [hgd] at h
    obtain ⟨d, C, h1, h2, h3⟩ := h
    have hd : d ∈ o.looksAt ops := by
      unfold Oper.looksAt
      rw [hgd]
      obtain ⟨gi, gb⟩ := g
      simp only at h1 ⊢
      rw [h1]
      simp
    refine ⟨d, C, h1, by rw [← hg d hd]; exact h2, ?_⟩
    cases hcl : callOf o.op with
    | none =>
      rw [hcl] at h3
      exact ⟨fun hC => by rw [← hc.2, ← hc.1]; exact h3.1 hC, by rw [← hc.1]; exact h3.2⟩
    | some c =>
      rw [hcl] at h3
      obtain ⟨a1, a2⟩ := args c hcl
      rcases h3 with h3 | h3
      · exact .inl ⟨by rw [← a1]; exact h3.1, by rw [← a2]; exact h3.2⟩
      · exact .inr ⟨by rw [← ha.settle.argC tb _ (inL c hcl)]; exact h3.1, by rw [← ha.settle.argD tb _ (inL c hcl)]; exact h3.2⟩

theorem draw_any (hR : RunI P tb cx.N ops ops.toList id σ rs is σ') (hchk : chkAll ops 0 is = true) {Q : Exit → Act → World → Prop} (hQ : ∀ a w, Sat cx σ' a w → Q .normal a w) :
    ∀ (fuel : Nat) (listed : Array Bool) (a : Act) (w : World), listed.toList.countP (! ·) ≤ fuel → listed.size = ops.size →
      (∀ j o, ops[j]? = some o → listed.getD j false = true → ∀ e, e ∈ o.after → Region.binds .any e = true → listed.getD e.on false = true) →
      Sat cx (mrg (fun j => listed.getD j false) 0 rs σ) a w → wpAny P .any ops Q fuel listed a w := by
  have hat := hR.at 0
  have hlen := hR.len
  -- where not all has come up, something may come up
  have hready : ∀ listed : Array Bool, listed.size = ops.size → Region.ready .any ops listed = [] → ∀ j, j < ops.size → listed.getD j false = true := by
    intro listed hsz hr
    intro j
    induction j using Nat.strongRecOn with
    | _ j ih =>
      intro hj
      cases hl : listed.getD j false with
      | true => rfl
      | false =>
        exfalso
        have ho : ops[j]? = some ops[j] := Array.getElem?_eq_getElem hj
        have hm : j ∈ Region.ready .any ops listed := by
          rw [mem_ready]
          refine ⟨?_, ops[j], ho, fun e he hb => ?_⟩
          · have : j < listed.size := by omega
            simp [this] at hl ⊢
            exact hl
          · obtain ⟨ef, _, _, hi, _⟩ := hat j ops[j] (by simp [hj])
            have := (chkAll_at hchk j _ hi).1
            rw [Nat.zero_add] at this
            have hlt := chkBack_spec this e he hb
            exact ih e.on hlt (by omega)
        rw [hr] at hm
        cases hm
  have hend : ∀ (listed : Array Bool) (a : Act) (w : World), listed.size = ops.size → Region.ready .any ops listed = [] → Sat cx (mrg (fun j => listed.getD j false) 0 rs σ) a w → Q .normal a w := by
    intro listed a w hsz hr hs
    refine hQ a w ?_
    have := hR.last (fun j => listed.getD j false) 0 fun j _ h2 => hready listed hsz hr j (by simpa using h2)
    rwa [this] at hs
  intro fuel
  induction fuel with
  | zero =>
    intro listed a w hc hsz hcl hs
    have hr : Region.ready .any ops listed = [] := by
      rw [List.eq_nil_iff_forall_not_mem]
      intro j hj
      obtain ⟨h1, o, ho, _⟩ := mem_ready.1 hj
      have hjl : j < listed.size := by rw [hsz]; exact (Array.getElem?_eq_some_iff.1 ho).1
      have hmem : listed[j] ∈ listed.toList := by simp
      have h0 : listed.toList.countP (! ·) = 0 := by omega
      rw [List.countP_eq_zero] at h0
      have := h0 _ hmem
      simp [hjl] at h1
      rw [h1] at this
      simp at this
    exact ⟨hr, hend listed a w hsz hr hs⟩
  | succ fuel ih =>
    intro listed a w hc hsz hcl hs
    refine ⟨fun hr => hend listed a w hsz hr hs, fun i hi => ?_⟩
    obtain ⟨h1, o, ho, hwait⟩ := mem_ready.1 hi
    have hiN : i < ops.size := (Array.getElem?_eq_some_iff.1 ho).1
    have hil : i < listed.size := by omega
    have hi0 : listed[i] = false := by simpa [hil] using h1
    have hiD : listed.getD i false = false := by simp [hil, hi0]
    obtain ⟨e, hrec, hd, hinfo, hstep⟩ := hat i o (by simpa using ho)
    simp only [Nat.zero_add] at hinfo hstep
    have hpairs := (chkAll_at hchk i _ hinfo).2
    -- every other operation against this one
    have key : ∀ (j : Nat) (oj : Oper), ops[j]? = some oj → j ≠ i → ∃ ej, rs[j]? = some (oj.dst, ej) ∧
        (decide (j < i) = listed.getD j false ∨ ((∀ t, oj.dst = some t → t ∉ o.looksAt ops) ∧ (∀ k, k ∈ ej.upds.map (·.1) → k ∉ rids (mrg (fun j => decide (j < i)) 0 rs σ) o ∧ (k < id + 16 * i ∨ id + 16 * i + 16 ≤ k)))) ∧
        (listed.getD j false = true → i < j → Apart (o.dst, e) (oj.dst, ej)) := by
      intro j oj hoj hji
      obtain ⟨ej, hrj, _, hij, _⟩ := hat j oj (by simpa using hoj)
      simp only [Nat.zero_add] at hij
      refine ⟨ej, hrj, ?_, ?_⟩
      · rcases Nat.lt_or_gt_of_ne hji with hlt | hgt
        · have hp := (chkAll_at hchk j _ hij).2 i _ hlt hinfo
          rw [Nat.zero_add] at hp
          cases hw : waitsOn o j with
          | true =>
            left
            obtain ⟨ed, he1, he2, he3⟩ := waitsOn_spec hw
            have := hwait ed he1 he2
            rw [he3] at this
            rw [this]; simpa using hlt
          | false =>
            right
            obtain ⟨p1, p2, p3⟩ := apart_of_pair hp hw
            exact ⟨(Oper.apart_spec p1).1, fun k hk => ⟨(p2 k hk).1, (p2 k hk).2.2⟩⟩
        · have hp := hpairs j _ hgt hij
          rw [Nat.zero_add] at hp
          cases hw : waitsOn oj i with
          | true =>
            left
            obtain ⟨ed, he1, he2, he3⟩ := waitsOn_spec hw
            have hnl : listed.getD j false = false := by
              cases hl : listed.getD j false with
              | false => rfl
              | true =>
                have := hcl j oj hoj hl ed he1 he2
                rw [he3, hiD] at this
                cases this
            rw [hnl]; simp; omega
          | false =>
            right
            obtain ⟨p1, p2, p3⟩ := apart_of_pair hp hw
            exact ⟨(Oper.apart_spec p1).2.2, fun k hk => p3 k hk⟩
      · intro hl hgt
        have hp := hpairs j _ hgt hij
        rw [Nat.zero_add] at hp
        have hw : waitsOn oj i = false := by
          cases hw : waitsOn oj i with
          | false => rfl
          | true =>
            obtain ⟨ed, he1, he2, he3⟩ := waitsOn_spec hw
            have := hcl j oj hoj hl ed he1 he2
            rw [he3, hiD] at this
            cases this
        obtain ⟨p1, p2, p3⟩ := apart_of_pair hp hw
        exact ⟨fun t ht => (Oper.apart_spec p1).2.1 t ht, fun k hk => (p2 k hk).2.1⟩
    have hopj : ∀ (j : Nat) (r : Rec), rs[j]? = some r → ∃ oj, ops[j]? = some oj := by
      intro j r hr
      have : j < rs.length := (List.getElem?_eq_some_iff.1 hr).1
      have hj : j < ops.size := by rw [hlen.1] at this; simpa using this
      exact ⟨_, Array.getElem?_eq_getElem hj⟩
    have agT : ∀ t, t ∈ o.looksAt ops → (mrg (fun j => decide (j < i)) 0 rs σ).tmps t = (mrg (fun j => listed.getD j false) 0 rs σ).tmps t := by
      intro t ht
      refine mrg_tmps rs 0 σ σ (fun j r hr hrt => ?_) rfl
      rw [Nat.zero_add]
      by_cases hji : j = i
      · subst hji; rw [hiD]; simp
      · obtain ⟨oj, hoj⟩ := hopj j r hr
        obtain ⟨ej, k1, k2, _⟩ := key j oj hoj hji
        rw [hr] at k1
        injection k1 with k1
        subst k1
        rcases k2 with k2 | ⟨k2, _⟩
        · exact k2
        · exact absurd ht (k2 t hrt)
    have agO : ∀ k, (k ∈ rids (mrg (fun j => decide (j < i)) 0 rs σ) o ∨ (id + 16 * i ≤ k ∧ k < id + 16 * i + 16)) → (mrg (fun j => decide (j < i)) 0 rs σ).objs k = (mrg (fun j => listed.getD j false) 0 rs σ).objs k := by
      intro k hk
      refine mrg_objs rs 0 σ σ (fun j r hr hrk => ?_) rfl
      rw [Nat.zero_add]
      by_cases hji : j = i
      · subst hji; rw [hiD]; simp
      · obtain ⟨oj, hoj⟩ := hopj j r hr
        obtain ⟨ej, k1, k2, _⟩ := key j oj hoj hji
        rw [hr] at k1
        injection k1 with k1
        subst k1
        rcases k2 with k2 | ⟨_, k2⟩
        · exact k2
        · obtain ⟨q1, q2⟩ := k2 k hrk
          rcases hk with hk | hk
          · exact absurd hk q1
          · omega
    have hlook : ∀ t, Operand.tmp t ∈ o.op.operands.toList → t ∈ o.looksAt ops := by
      intro t ht
      unfold Oper.looksAt
      rw [List.mem_append]
      left
      rw [List.mem_filterMap]
      exact ⟨_, ht, rfl⟩
    have hev : ∀ x, x ∈ o.op.operands.toList → (mrg (fun j => decide (j < i)) 0 rs σ).ev x = (mrg (fun j => listed.getD j false) 0 rs σ).ev x := by
      intro x hx
      cases x with
      | tmp t => exact agT t (hlook t hx)
      | _ => rfl
    have hstep' : stepR P tb ops (id + 16 * i) (mrg (fun j => listed.getD j false) 0 rs σ) o e := by
      refine stepR_congr ⟨hev, fun x hx j hj => agO j (.inl ?_)⟩ (fun j j1 j2 => agO j (.inr ⟨j1, j2⟩)) agT hstep
      unfold rids
      rw [List.mem_flatMap]
      exact ⟨x, hx, hj⟩
    have hok := stepR_sound (cx := cx) (ops := ops) hd hstep' a w (wpAny P .any ops Q fuel (listed.setIfInBounds i true)) Q hs fun a' w' hs' => by
      refine ih (listed.setIfInBounds i true) a' w' ?_ (by simpa using hsz) ?_ ?_
      · have := countP_set (l := listed.toList) (i := i) (by simp [hil, hi0])
        rw [Array.toList_setIfInBounds]
        omega
      · intro j oj hoj hl ed he1 he2
        by_cases hji : j = i
        · subst hji
          rw [ho] at hoj
          injection hoj with hoj
          subst hoj
          exact getD_set_true (hwait ed he1 he2)
        · rw [getD_set_ne false (Ne.symm hji)] at hl
          exact getD_set_true (hcl j oj hoj hl ed he1 he2)
      · have hins := mrg_insert (fun j => listed.getD j false) (i := i) (q := (o.dst, e)) rs 0 σ hrec (by rw [Nat.zero_add]; exact hiD) (fun j r hr hij hl => by
          rw [Nat.zero_add] at hl
          obtain ⟨oj, hoj⟩ := hopj j r hr
          obtain ⟨ej, k1, _, k3⟩ := key j oj hoj (by omega)
          rw [hr] at k1
          injection k1 with k1
          subst k1
          exact k3 hl hij)
        have hS : (fun j => (listed.setIfInBounds i true).getD j false) = fun j => (listed.getD j false || j == 0 + i) := by
          funext j
          by_cases hji : j = i
          · subst hji; simp [hil]
          · rw [getD_set_ne false (Ne.symm hji)]
            have : (j == 0 + i) = false := by simp; exact hji
            rw [this, Bool.or_false]
        rw [hS, hins]
        exact hs'
    unfold wpOp
    rw [ho]
    simp only
    split
    · rename_i hw
      rw [if_pos hw] at hok
      exact .inl hok
    · rename_i hw
      rw [if_neg hw] at hok
      exact hok
end

end Go.AL
