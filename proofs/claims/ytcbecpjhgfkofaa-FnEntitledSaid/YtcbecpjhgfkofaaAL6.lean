/- Objects that a call owns: new ones, turned ones, given-up ones. A general part, over any program. -/
import Derived.Test.YtcbecpjhgfkofaaAL5
set_option linter.unusedSimpArgs false
set_option linter.unusedVariables false
namespace Go.AL
open Go.RowKit

section
variable {cx : Cx} {objs : Nat → AObj} {w w' : World} {lim lim' : Nat → Nat} {G : Nat → Value}

theorem upd_live_other {id i : Nat} (o : AObj) (h : i ≠ id) : (upd objs id o) i = objs i := upd_ne _ _ _ _ h

theorem Ext.kill (id : Nat) : Ext G objs G (upd objs id .dead) := by
  intro i hb
  by_cases e : i = id
  · subst e; rw [upd_same]; exact ⟨rfl, fun h => by cases h⟩
  · rw [upd_ne _ _ _ _ e]; exact ⟨hb, fun h => ⟨h, rfl⟩⟩

theorem Hp.kill (h : Hp cx objs w lim G) (id : Nat) : Hp cx (upd objs id .dead) w lim G := by
  refine ⟨h.start, h.below, h.lim0, fun i => ?_, fun i j g hij hi hj => ?_, fun i g hi hg => ?_, fun j r hr => ?_⟩
  · by_cases e : i = id
    · subst e; rw [upd_same]; simp only [ObjOK]
    · rw [upd_ne _ _ _ _ e]
      exact (h.obj i).keeps (Keeps.refl w lim) (Ext.kill id) fun g _ => ⟨rfl, rfl⟩
  · have e1 : i ≠ id := by rintro rfl; rw [upd_same] at hi; cases hi
    have e2 : j ≠ id := by rintro rfl; rw [upd_same] at hj; cases hj
    rw [upd_ne _ _ _ _ e1] at hi
    rw [upd_ne _ _ _ _ e2] at hj
    exact h.sep i j g hij hi hj
  · have e1 : i ≠ id := by rintro rfl; rw [upd_same] at hi; cases hi
    rw [upd_ne _ _ _ _ e1] at hi
    exact h.mine i g hi hg
  · obtain ⟨h1, h2⟩ := h.lent j r hr
    refine ⟨?_, h2⟩
    by_cases e : j = id
    · subst e; rw [upd_same]; rfl
    · rw [upd_ne _ _ _ _ e]; exact h1

theorem Ext.new {id : Nat} (hu : objs id = .unborn) (r : Value) (o : AObj) : Ext G objs (upd G id r) (upd objs id o) := by
  intro i hb
  have e : i ≠ id := by rintro rfl; rw [hu] at hb; cases hb
  rw [upd_ne _ _ _ _ e, upd_ne _ _ _ _ e]
  exact ⟨hb, fun h => ⟨h, rfl⟩⟩

theorem Hp.new (h : Hp cx objs w lim G) {id : Nat} (hu : objs id = .unborn) {r : Value} {o : AObj} (hb : BelowL cx.L cx.B cx.w0 w') (hk : Keeps w lim w' lim')
    (hold : ∀ i g, (objs i).live = true → blk (G i) = some g → w'.heap[g]? = w.heap[g]? ∧ lim' g = lim g) (hlim : ∀ b, b < cx.B → ¬ cx.L b → lim' b = lim b)
    (hsep : ∀ i g, (objs i).live = true → blk (G i) = some g → blk r ≠ some g) (hmine : ∀ g, blk r = some g → cx.B ≤ g ∨ cx.L g) (hobj : ObjOK w' lim' (upd G id r) (upd objs id o) 0 r o) :
    Hp cx (upd objs id o) w' lim' (upd G id r) := by
  refine ⟨h.start, hb, fun b hlt hL => (hlim b hlt hL).trans (h.lim0 b hlt hL), fun i => ?_, fun i j g hij hi hj hg => ?_, fun i g hi hg => ?_, fun j q hq => ?_⟩
  rotate_left 2
  · by_cases e : i = id
    · subst e; rw [upd_same] at hg; exact hmine g hg
    · rw [upd_ne _ _ _ _ e] at hi hg; exact h.mine i g hi hg
  · obtain ⟨h1, h2⟩ := h.lent j q hq
    have e : j ≠ id := by rintro rfl; rw [hu] at h1; cases h1
    rw [upd_ne _ _ _ _ e, upd_ne _ _ _ _ e]
    exact ⟨h1, h2⟩
  · by_cases e : i = id
    · subst e; rw [upd_same, upd_same]; exact hobj
    · rw [upd_ne _ _ _ _ e, upd_ne _ _ _ _ e]
      cases hl : (objs i).live with
      | true => exact (h.obj i).keeps hk (Ext.new hu r o) fun g hg => hold i g hl hg
      | false =>
        cases ho : objs i <;> rw [ho] at hl <;> first | (simp only [ObjOK]; done) | cases hl
  · by_cases e : i = id
    · subst e
      have e2 : j ≠ i := fun k => hij k.symm
      rw [upd_same] at hg
      rw [upd_ne _ _ _ _ e2] at hj ⊢
      intro hgj
      exact hsep j g hj hgj hg
    · rw [upd_ne _ _ _ _ e] at hi hg
      by_cases e2 : j = id
      · subst e2
        rw [upd_same]
        exact hsep i g hi hg
      · rw [upd_ne _ _ _ _ e2] at hj ⊢
        exact h.sep i j g hij hi hj hg

/-- The world moves on, nothing that is owned turns. -/
theorem Hp.world (h : Hp cx objs w lim G) (hb : Below w.heap.size w w') (hl : ∀ b, b < w.heap.size → lim' b = lim b) : Hp cx objs w' lim' G ∧ Keeps w lim w' lim' := by
  have hk : Keeps w lim w' lim' := ⟨fun a u hc _ => by rw [hb.cell (p := a) (World.block_lt_of_cell? _ _ hc)]; exact hc, fun b hlt => by rw [hl b hlt]; exact Nat.le_refl _⟩
  have hB : cx.B ≤ w.heap.size := by rw [h.start]; exact h.below.size
  refine ⟨⟨h.start, h.below.trans (.of cx.L (hb.mono hB)), fun b hlt hL => (hl b (Nat.lt_of_lt_of_le hlt hB)).trans (h.lim0 b hlt hL), fun i => ?_, h.sep, h.mine, h.lent⟩, hk⟩
  cases hlv : (objs i).live with
  | true =>
    refine (h.obj i).keeps hk (Ext.refl _ _) fun g hg => ?_
    have := ((h.obj i).block_ge hlv g hg).2
    exact ⟨hb.block g this, hl g this⟩
  | false => cases ho : objs i <;> rw [ho] at hlv <;> first | (simp only [ObjOK]; done) | cases hlv

/-- An owned object is turned where it lies. -/
theorem Hp.set (h : Hp cx objs w lim G) {id : Nat} {o : AObj} (hlv : (objs id).live = true) (hb : BelowL cx.L cx.B cx.w0 w') (hk : Keeps w lim w' lim')
    (hold : ∀ i g, i ≠ id → (objs i).live = true → blk (G i) = some g → w'.heap[g]? = w.heap[g]? ∧ lim' g = lim g) (hlim : ∀ b, b < cx.B → ¬ cx.L b → lim' b = lim b)
    (hobj : ObjOK w' lim' G (upd objs id o) 0 (G id) o) (hl : o.live = true) :
    Hp cx (upd objs id o) w' lim' G ∧ Ext G objs G (upd objs id o) := by
  have he : Ext G objs G (upd objs id o) := by
    intro i hbn
    by_cases e : i = id
    · subst e; rw [upd_same]; exact ⟨AObj.born_of_live hl, fun _ => ⟨hlv, rfl⟩⟩
    · rw [upd_ne _ _ _ _ e]; exact ⟨hbn, fun h => ⟨h, rfl⟩⟩
  have f : ∀ k, ((upd objs id o) k).live = true → (objs k).live = true := by
    intro k hk
    by_cases e : k = id
    · subst e; exact hlv
    · rwa [upd_ne _ _ _ _ e] at hk
  refine ⟨⟨h.start, hb, fun b hlt hL => (hlim b hlt hL).trans (h.lim0 b hlt hL), fun i => ?_, fun i j g hij hi hj hg => h.sep i j g hij (f i hi) (f j hj) hg, fun i g hi hg => h.mine i g (f i hi) hg, fun j q hq => ⟨(he j (h.lent j q hq).1).1, (h.lent j q hq).2⟩⟩, he⟩
  · by_cases e : i = id
    · subst e; rw [upd_same]; exact hobj
    · rw [upd_ne _ _ _ _ e]
      cases hl : (objs i).live with
      | true => exact (h.obj i).keeps hk he fun g hg => hold i g e hl hg
      | false => cases ho : objs i <;> rw [ho] at hl <;> first | (simp only [ObjOK]; done) | cases hl

/-- A new block. -/
theorem keeps_alloc (o : Obj) (n : Nat) : Keeps w lim (w.alloc o) (upd lim w.heap.size n) :=
  ⟨fun a u hc _ => by rw [World.cell?_alloc_lt w o a (World.block_lt_of_cell? _ _ hc)]; exact hc, fun b hb => by rw [upd_ne _ _ _ _ (Nat.ne_of_lt hb)]; exact Nat.le_refl _⟩

theorem Hp.alloc (h : Hp cx objs w lim G) {id : Nat} (hu : objs id = .unborn) {r : Value} {o : AObj} (ob : Obj) (n : Nat) (hr : blk r = some w.heap.size)
    (hobj : ObjOK (w.alloc ob) (upd lim w.heap.size n) (upd G id r) (upd objs id o) 0 r o) :
    Hp cx (upd objs id o) (w.alloc ob) (upd lim w.heap.size n) (upd G id r) := by
  have hB : cx.B ≤ w.heap.size := by rw [h.start]; exact h.below.size
  refine h.new hu (h.below.trans (.of cx.L ((Below.refl cx.B w).alloc hB ob))) (keeps_alloc ob n) (fun i g hl hg => ?_) (fun b hb _ => upd_ne _ _ _ _ (by omega)) (fun i g hl hg => ?_) (fun g hg => .inl (by rw [hr] at hg; injection hg with hg; omega)) hobj
  · have hlt := ((h.obj i).block_ge hl g hg).2
    exact ⟨Below.heap_alloc w ob g hlt, upd_ne _ _ _ _ (Nat.ne_of_lt hlt)⟩
  · have hlt := ((h.obj i).block_ge hl g hg).2
    rw [hr]
    intro e
    injection e with e
    omega
end

/-! ### Boxes -/

def Ty.zeros : Ty → List AV
  | .int k => [.rd (.int k) 0]
  | .bool => [.rd .bool false]
  | .str => [.rd .str ByteArray.empty]
  | .list _ => [.nils]
  | .nil => []
  | .cons h t => h.zeros ++ t.zeros

def explode : (t : Ty) → t.den → List AV
  | .nil, _ => []
  | .cons h t, x => .rd h x.1 :: explode t x.2
  | .int k, x => [.rd (.int k) x]
  | .bool, x => [.rd .bool x]
  | .str, x => [.rd .str x]
  | .list t, x => [.rd (.list t) x]

def Ty.flats : Ty → Bool
  | .cons h t => h.flat1 && t.flats
  | _ => true

/-- The cells of a value that goes into a variable of type t. -/
def cellsAV : AV → List AV
  | .agg cs => cs
  | .rd t' x => explode t' x
  | a => [a]

/-- Surely one cell. -/
def oneC (objs : Nat → AObj) : AV → Prop
  | .rd t' _ => t'.flat1 = true
  | .nils => True
  | .own id => (objs id).live = true
  | _ => False

def onesC (objs : Nat → AObj) : List AV → Prop
  | [] => True
  | a :: r => oneC objs a ∧ onesC objs r

def cellsC (objs : Nat → AObj) (t : Ty) : AV → Prop
  | .agg cs => t.isAgg = true ∧ cs.length = t.size ∧ onesC objs cs
  | .rd t' _ => t' = t ∧ t.flats = true
  | .nils => t.flat1 = true
  | .own id => t.flat1 = true ∧ (objs id).live = true
  | _ => False

section
variable {w : World} {lim : Nat → Nat} {G : Nat → Value} {objs : Nat → AObj}
theorem explode_ok : ∀ (t : Ty) (x : t.den) (cs : List Value), t.flats = true → Rd w lim t cs x → AVsOk w lim G objs (explode t x) cs
  | .nil, x, cs, _, h => by simp only [explode, AVsOk]; exact h
  | .cons h t, x, cs, hf, hr => by
    simp only [Ty.flats, Bool.and_eq_true] at hf
    obtain ⟨c1, c2, e, h1, h2⟩ := hr
    have hl := h1.length
    rw [(flat1_size hf.1).1] at hl
    match c1, hl with
    | [c], _ =>
      simp only [explode, AVsOk, AVok]
      exact ⟨c, c2, by rw [e]; rfl, ⟨[c], h1, (mkV_flat hf.1 c).symm⟩, explode_ok t x.2 c2 hf.2 h2⟩
  | .int k, x, cs, _, h => by
    have hl := h.length
    match cs, hl with
    | [c], _ => simp only [explode, AVsOk, AVok]; exact ⟨c, [], rfl, ⟨[c], h, rfl⟩, rfl⟩
  | .bool, x, cs, _, h => by
    have hl := h.length
    match cs, hl with
    | [c], _ => simp only [explode, AVsOk, AVok]; exact ⟨c, [], rfl, ⟨[c], h, rfl⟩, rfl⟩
  | .str, x, cs, _, h => by
    have hl := h.length
    match cs, hl with
    | [c], _ => simp only [explode, AVsOk, AVok]; exact ⟨c, [], rfl, ⟨[c], h, rfl⟩, rfl⟩
  | .list t, x, cs, _, h => by
    have hl := h.length
    match cs, hl with
    | [c], _ => simp only [explode, AVsOk, AVok]; exact ⟨c, [], rfl, ⟨[c], h, rfl⟩, rfl⟩

theorem zeros_ok : ∀ t : Ty, AVsOk w lim G objs t.zeros t.zcells
  | .int k => by simp only [Ty.zeros, Ty.zcells, AVsOk, AVok]; exact ⟨_, _, rfl, ⟨_, zcells_rd w lim (.int k), rfl⟩, rfl⟩
  | .bool => by simp only [Ty.zeros, Ty.zcells, AVsOk, AVok]; exact ⟨_, _, rfl, ⟨_, zcells_rd w lim .bool, rfl⟩, rfl⟩
  | .str => by simp only [Ty.zeros, Ty.zcells, AVsOk, AVok]; exact ⟨_, _, rfl, ⟨_, zcells_rd w lim .str, rfl⟩, rfl⟩
  | .list _ => by simp only [Ty.zeros, Ty.zcells, AVsOk, AVok]; exact ⟨_, _, rfl, rfl, rfl⟩
  | .nil => by simp only [Ty.zeros, Ty.zcells, AVsOk]
  | .cons h t => by
    have app : ∀ (l : List AV) (vs : List Value) (l2 : List AV) (vs2 : List Value), AVsOk w lim G objs l vs → AVsOk w lim G objs l2 vs2 → AVsOk w lim G objs (l ++ l2) (vs ++ vs2) := by
      intro l
      induction l with
      | nil => intro vs l2 vs2 h1 h2; simp only [AVsOk] at h1; subst h1; simpa using h2
      | cons a l ih =>
        intro vs l2 vs2 h1 h2
        simp only [AVsOk] at h1
        obtain ⟨v, r, e, h3, h4⟩ := h1
        subst e
        simp only [List.cons_append, AVsOk]
        exact ⟨v, r ++ vs2, rfl, h3, ih r l2 vs2 h4 h2⟩
    exact app _ _ _ _ (zeros_ok h) (zeros_ok t)

theorem root_one {B : Nat} (ho : ∀ id, ObjOK w lim G objs B (G id) (objs id)) {id : Nat} (hl : (objs id).live = true) : (G id).oneCell' = true := by
  have h := ho id
  have row : ∀ {e : TypeId} {t : Ty} {xs : List t.den} {r : Value}, RowOK w lim B e t xs r → r.oneCell' = true := by
    intro e t xs r hr
    obtain ⟨vs, ⟨_, h2⟩, _⟩ := hr
    rcases h2 with ⟨h2, _⟩ | ⟨g', cap, cur, hr, _⟩
    · rw [h2]; rfl
    · rw [hr]; rfl
  cases hob : objs id with
  | unborn => rw [hob] at hl; cases hl
  | dead => rw [hob] at hl; cases hl
  | box T cs => rw [hob] at h; simp only [ObjOK] at h; obtain ⟨g, arr, hr, _⟩ := h; rw [hr]; rfl
  | row e t xs => rw [hob] at h; simp only [ObjOK] at h; exact row h.1
  | arr e t xs => rw [hob] at h; simp only [ObjOK] at h; exact row h.1

theorem oneC_ok {B : Nat} (ho : ∀ id, ObjOK w lim G objs B (G id) (objs id)) {av : AV} {v : Value} (hc : oneC objs av) (h : AVok w lim G objs av v) : v.oneCell' = true := by
  cases av <;> simp only [oneC] at hc
  · simp only [AVok] at h
    obtain ⟨cs, h1, h2⟩ := h
    have hl := h1.length
    rw [(flat1_size hc).1] at hl
    match cs, hl with
    | [c], _ => rw [mkV_flat hc] at h2; rw [h2]; exact h1.one c (by simp)
  · simp only [AVok] at h; rw [h]; rfl
  · simp only [AVok] at h; rw [h.2 hc]; exact root_one ho hc

theorem onesC_ok {B : Nat} (ho : ∀ id, ObjOK w lim G objs B (G id) (objs id)) : ∀ {cs : List AV} {vs : List Value}, onesC objs cs → AVsOk w lim G objs cs vs → ∀ u ∈ vs, u.oneCell' = true
  | [], vs, _, h => by simp only [AVsOk] at h; subst h; simp
  | a :: cs, vs, hc, h => by
    simp only [AVsOk] at h
    obtain ⟨v, r, e, h1, h2⟩ := h
    subst e
    intro u hu
    rcases List.mem_cons.1 hu with rfl | hu
    · exact oneC_ok ho hc.1 h1
    · exact onesC_ok ho hc.2 h2 u hu

/-- The cells of a value, as they go into a variable. -/
theorem cellsC_ok {B : Nat} (ho : ∀ id, ObjOK w lim G objs B (G id) (objs id)) {t : Ty} {av : AV} {v : Value} (hc : cellsC objs t av) (h : AVok w lim G objs av v) :
    AVsOk w lim G objs (cellsAV av) v.cells.toList ∧ v.cells.toList.length = t.size ∧ ∀ u ∈ v.cells.toList, u.oneCell' = true := by
  cases av <;> simp only [cellsC] at hc
  · obtain ⟨rfl, hf⟩ := hc
    simp only [AVok] at h
    have h1 := h.cells.1
    exact ⟨explode_ok _ _ _ hf h1, h1.length, h1.one⟩
  · simp only [AVok] at h
    rw [h]
    refine ⟨?_, by rw [(flat1_size hc).1]; rfl, by simp [Value.cells, Value.oneCell']⟩
    simp only [cellsAV, AVsOk, AVok, Value.cells]
    exact ⟨_, _, rfl, rfl, rfl⟩
  · have h1 := oneC_ok ho (av := .own _) (by simp only [oneC]; exact hc.2) h
    have hv : v.cells = #[v] := by cases v <;> simp_all [Value.cells, Value.oneCell']
    rw [hv]
    refine ⟨?_, by rw [(flat1_size hc.1).1]; rfl, by simpa using h1⟩
    simp only [cellsAV, AVsOk]
    exact ⟨_, _, rfl, h, rfl⟩
  · simp only [AVok] at h
    obtain ⟨arr, h1, h2⟩ := h
    subst h1
    simp only [cellsAV, Value.cells]
    exact ⟨h2, by rw [h2.length]; exact hc.2.1, onesC_ok ho hc.2.2 h2⟩

theorem RdV.notagg {t : Ty} {v : Value} {x : t.den} (h : RdV w lim t v x) : v.cells.toList.length = t.size ∧ ∀ u ∈ v.cells.toList, u.oneCell' = true :=
  ⟨h.cells.1.length, h.cells.1.one⟩
end
end Go.AL
