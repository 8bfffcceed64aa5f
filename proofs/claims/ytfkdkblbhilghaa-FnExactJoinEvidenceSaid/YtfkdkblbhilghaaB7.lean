/- The bridge from a row's arguments, trodden as data, to typed readings, and back. A general part, over any program. -/
import Derived.Test.YtfkdkblbhilghaaB6
import Derived.WalkKit
import Derived.ProofKit
import Derived.OpenShut
import Derived.Carry
import Derived.ChangeSame
set_option linter.unusedSimpArgs false
set_option linter.unusedVariables false
namespace Go.AL
open Go.RowKit Go.WideShapes Go.ChangeShapes Go.WideElems

/-- All cells of a world, as settled. -/
def full (W : World) (b : Nat) : Nat := match W.heap[b]? with
  | some (.cells c _ _) => c.size
  | _ => 0

theorem at_full {W : World} {a : Addr} {ds : List Value} (h : ∀ j u, ds[j]? = some u → W.cell? (a.add j) = some u) : At W (full W) a ds := by
  intro j u hu
  have h1 := h j u hu
  refine ⟨h1, ?_⟩
  have e := block_add a j
  unfold World.cell? at h1
  rw [e] at h1
  unfold full
  split at h1
  · rename_i c T fr hc
    rw [hc]
    split at h1
    · cases h1
    · exact (Array.getElem?_eq_some_iff.1 h1).1
  · cases h1

theorem wf_in {k : IntKind} {n : Int} (h : (Lit.int k n).wf = true) : k.min ≤ n ∧ n ≤ k.max := by
  simpa [Lit.wf] using h

theorem cellsOf_inf {P : Program} {t : Ty} {T : TypeId} (h : InfOK P t T) : P.cellsOf T = t.size := by
  obtain ⟨i, h1, h2, _⟩ := h
  simp [Program.cellsOf, h1, h2]

section
variable {H : Type} {enc : TypeId × Value → H} {P : Program} {W : World} {sp : Nat → Bool} {held : Bool}

theorem trod_rd_both : ∀ t : Ty,
    (∀ (T : TypeId) (fuel : Nat) (cs : List Value) (x : DataW H × List MemPlace), TyOK P t T → DataW.trod enc P W 0 sp held fuel T cs = some x → ∃ y, Rd W (full W) t cs y) ∧
    (∀ (fs : List Field) (o : Nat) (cs : List Value), FsOK P t fs o → cs.length = o + t.size → (∀ (i : Nat) (f : Field), fs[i]? = some f → ∃ n x, DataW.trod enc P W 0 sp held n f.type ((cs.drop f.offset).take (P.cellsOf f.type)) = some x) → ∃ y, Rd W (full W) t (cs.drop o) y) := by
  intro t
  induction t with
  | int k =>
    refine ⟨fun T fuel cs x hT h => ?_, fun fs o cs h _ _ => by simp only [FsOK] at h⟩
    simp only [TyOK] at hT
    obtain ⟨n, rfl, _, hw⟩ := DataW.trod_int hT.1 h
    exact ⟨n, rfl, wf_in hw⟩
  | bool =>
    refine ⟨fun T fuel cs x hT h => ?_, fun fs o cs h _ _ => by simp only [FsOK] at h⟩
    simp only [TyOK] at hT
    obtain ⟨b, rfl, _⟩ := DataW.trod_bool hT.1 h
    exact ⟨b, rfl⟩
  | str =>
    refine ⟨fun T fuel cs x hT h => ?_, fun fs o cs h _ _ => by simp only [FsOK] at h⟩
    simp only [TyOK] at hT
    obtain ⟨s, rfl, _, hs⟩ := DataW.trod_string hT.1 h
    exact ⟨s, rfl, hs⟩
  | list t ih =>
    refine ⟨fun T fuel cs x hT h => ?_, fun fs o cs h _ _ => by simp only [FsOK] at h⟩
    simp only [TyOK] at hT
    obtain ⟨e, hu, hte, hinf, hpos⟩ := hT
    rcases DataW.trod_slice hu h with ⟨rfl, _⟩ | ⟨a, len, cap, elems, rest, n, _, rfl, _, hb, hl, hm, hlen, hel, _, _⟩
    · exact ⟨[], none, 0, rfl, Nat.le_refl _, Nat.zero_le _, fun i hi => absurd hi (by simp)⟩
    · have ce := cellsOf_inf hte.inf
      have each : ∀ i, i < len → ∃ y ds, At W (full W) (a.add (i * t.size)) ds ∧ ds.length = t.size ∧ Rd W (full W) t ds y := by
        intro i hi
        have h1 := hel i hi
        rw [List.getElem?_eq_getElem (by omega), ce] at h1
        obtain ⟨ds, hd, htr⟩ := Option.bind_eq_some_iff.1 h1
        obtain ⟨y, hy⟩ := ih.1 e n ds _ hte htr
        obtain ⟨_, c2, c3⟩ := World.cells?_some hd
        exact ⟨y, ds, at_full fun j u hu => by
          have hj := (List.getElem?_eq_some_iff.1 hu).1
          rw [← hu]
          exact c3 j (by omega), hy.length, hy⟩
      let f : ∀ i, i < len → t.den := fun i hi => Classical.choose (each i hi)
      have hf : ∀ i (hi : i < len), ∃ ds, At W (full W) (a.add (i * t.size)) ds ∧ ds.length = t.size ∧ Rd W (full W) t ds (f i hi) := fun i hi => Classical.choose_spec (each i hi)
      have hxl : (List.ofFn fun i : Fin len => f i.1 i.2).length = len := List.length_ofFn
      refine ⟨List.ofFn fun i : Fin len => f i.1 i.2, some a, cap, by rw [hxl], by rw [hxl]; exact hl, hm, fun i hi => ?_⟩
      have hi' : i < len := by rw [hxl] at hi; exact hi
      obtain ⟨ds, f1, f2, f3⟩ := hf i hi'
      refine ⟨a, ds, rfl, f1, f2, ?_⟩
      rw [List.getElem_ofFn]
      exact f3
  | nil =>
    have B : ∀ (fs : List Field) (o : Nat) (cs : List Value), FsOK P .nil fs o → cs.length = o + Ty.nil.size → (∀ (i : Nat) (f : Field), fs[i]? = some f → ∃ n x, DataW.trod enc P W 0 sp held n f.type ((cs.drop f.offset).take (P.cellsOf f.type)) = some x) → ∃ y, Rd W (full W) .nil (cs.drop o) y := by
      intro fs o cs _ hl _
      exact ⟨(), List.drop_of_length_le (by simp only [Ty.size] at hl; omega)⟩
    refine ⟨fun T fuel cs x hT h => ?_, B⟩
    simp only [TyOK] at hT
    obtain ⟨fs, hu, _, hinf⟩ := hT
    obtain ⟨xs, n, _, _, hlen, _, _⟩ := DataW.trod_struct hu h
    rw [cellsOf_inf hinf] at hlen
    exact ⟨(), List.eq_nil_of_length_eq_zero hlen⟩
  | cons hd tl ihh iht =>
    have B : ∀ (fs : List Field) (o : Nat) (cs : List Value), FsOK P (.cons hd tl) fs o → cs.length = o + (Ty.cons hd tl).size → (∀ (i : Nat) (f : Field), fs[i]? = some f → ∃ n x, DataW.trod enc P W 0 sp held n f.type ((cs.drop f.offset).take (P.cellsOf f.type)) = some x) → ∃ y, Rd W (full W) (.cons hd tl) (cs.drop o) y := by
      intro fs o cs hfs hl each
      simp only [FsOK] at hfs
      obtain ⟨f, r, rfl, ho, hfl, hty, hr⟩ := hfs
      have hs1 := (flat1_size hfl).1
      simp only [Ty.size, hs1] at hl
      obtain ⟨n, x, hx⟩ := each 0 f rfl
      rw [cellsOf_inf hty.inf, hs1, ho] at hx
      obtain ⟨y1, hy1⟩ := ihh.1 _ _ _ _ hty hx
      obtain ⟨y2, hy2⟩ := iht.2 r (o + 1) cs hr (by omega) fun i g hg => each (i + 1) g (by simpa using hg)
      refine ⟨(y1, y2), (cs.drop o).take 1, cs.drop (o + 1), ?_, hy1, hy2⟩
      rw [← List.drop_drop, List.take_append_drop]
    refine ⟨fun T fuel cs x hT h => ?_, B⟩
    simp only [TyOK] at hT
    obtain ⟨fs, hu, hfs, hinf⟩ := hT
    obtain ⟨xs, n, _, _, hlen, hxl, each⟩ := DataW.trod_struct hu h
    rw [cellsOf_inf hinf] at hlen
    obtain ⟨y, hy⟩ := B fs.toList 0 cs hfs (by omega) fun i f hf => by
      have hf' : fs[i]? = some f := by simpa using hf
      have h1 := each i f hf'
      have hi := (Array.getElem?_eq_some_iff.1 hf').1
      rw [List.getElem?_eq_getElem (by omega)] at h1
      exact ⟨n, _, h1⟩
    exact ⟨y, by simpa using hy⟩

theorem arg_rd {t : Ty} {T : TypeId} {v : Value} {d : DataW H} {p : List MemPlace} {r : Reach} {b0 : Nat} (hT : TyOK P t T) (hv : Value.okWide P W r b0 T v) (h : DataW.Trod enc P W 0 sp held T v d p) : ∃ y, RdV W (full W) t v y := by
  obtain ⟨fuel, hf⟩ := h
  obtain ⟨y, hy⟩ := (trod_rd_both t).1 T fuel _ _ hT hf
  refine ⟨y, _, hy, ?_⟩
  cases t with
  | int k => simp only [TyOK] at hT; obtain ⟨n, rfl⟩ := okWide_int hT.1 hv; rfl
  | bool => simp only [TyOK] at hT; obtain ⟨n, rfl⟩ := okWide_bool hT.1 hv; rfl
  | str => simp only [TyOK] at hT; obtain ⟨n, rfl⟩ := okWide_string hT.1 hv; rfl
  | list t => simp only [TyOK] at hT; obtain ⟨e, hu, _⟩ := hT; obtain ⟨a, l, c, rfl⟩ := okWide_slice hu hv; rfl
  | nil => simp only [TyOK] at hT; obtain ⟨fs, hu, _⟩ := hT; obtain ⟨cs, rfl, _⟩ := okWide_struct hu hv; simp [mkV, Ty.isAgg, Value.cells]
  | cons a b => simp only [TyOK] at hT; obtain ⟨fs, hu, _⟩ := hT; obtain ⟨cs, rfl, _⟩ := okWide_struct hu hv; simp [mkV, Ty.isAgg, Value.cells]

def TysOK (P : Program) : List Ty → List TypeId → Prop
  | [], [] => True
  | t :: ts, T :: Ts => TyOK P t T ∧ TysOK P ts Ts
  | _, _ => False

theorem args_rd {b0 : Nat} : ∀ {ts : List Ty} {Ts : List TypeId} {vs : List Value} {ds : List (DataW H)} {ps : List MemPlace}, TysOK P ts Ts → DataW.TrodAll enc P W 0 sp held Ts vs ds ps →
    (∀ (j : Nat) (T : TypeId) (v : Value), Ts[j]? = some T → vs[j]? = some v → Value.okWide P W .any b0 T v) → ∃ args : List TV, args.map (·.t) = ts ∧ ArgsOK W (full W) args vs
  | [], [], vs, ds, ps, _, h, _ => by
    obtain ⟨rfl, _, _⟩ := trodAll_nil h
    exact ⟨[], rfl, by simp only [ArgsOK]⟩
  | t :: ts, T :: Ts, vs, ds, ps, hT, h, hv => by
    obtain ⟨v, vs', d, ds', p, q, rfl, rfl, _, h1, h2⟩ := trodAll_cons h
    obtain ⟨y, hy⟩ := arg_rd hT.1 (hv 0 T v rfl rfl) h1
    obtain ⟨args, e1, e2⟩ := args_rd hT.2 h2 fun j T' v' hj hv' => hv (j + 1) T' v' (by simpa using hj) (by simpa using hv')
    refine ⟨⟨t, y⟩ :: args, by simp [e1], ?_⟩
    simp only [ArgsOK]
    exact ⟨v, vs', rfl, hy, e2⟩
  | [], _ :: _, _, _, _, h, _, _ => h.elim
  | _ :: _, [], _, _, _, h, _, _ => h.elim

def rowsB (P : Program) (Ts : List TypeId) : Bool := Ts.all fun T => P.readableRec T && decide (T < P.types.size)

theorem trodAll_stays (hl : laidOutB P = true) {W' : World} {sp' : Nat → Bool} (hb : Below W.heap.size W W') : ∀ {Ts : List TypeId} {vs : List Value} {ds : List (DataW H)} {ps : List MemPlace}, rowsB P Ts = true →
    DataW.TrodAll enc P W 0 (fun _ => true) true Ts vs ds ps → (∀ x ∈ ps, x.block < W.heap.size) → (∀ x ∈ ps, sp' x.block = true) → DataW.TrodAll enc P W' 0 sp' true Ts vs ds ps
  | [], vs, ds, ps, _, h, _, _ => by
    obtain ⟨rfl, rfl, rfl⟩ := trodAll_nil h
    exact trodAll_mk0
  | T :: Ts, vs, ds, ps, hr, h, hlt, hs => by
    obtain ⟨v, vs', d, ds', p, q, rfl, rfl, rfl, h1, h2⟩ := trodAll_cons h
    simp only [rowsB, List.all_cons, Bool.and_eq_true, decide_eq_true_eq] at hr
    exact trodAll_cons_mk (Trod_stays hl hr.1.1 hr.1.2 h1 (fun x hx => hb.same (hlt x (List.mem_append.2 (.inl hx)))) fun x hx => hs x (List.mem_append.2 (.inl hx)))
      (trodAll_stays hl hb (by simpa [rowsB] using hr.2) h2 (fun x hx => hlt x (List.mem_append.2 (.inr hx))) fun x hx => hs x (List.mem_append.2 (.inr hx)))

theorem post_of_below {f : Func} {s : ChangeSpec} {apart fresh handsOn again : Bool} {W W' : World} {args : Array Value} {v : Value} {ds gs : List (DataW H)} {before pa pv : List MemPlace}
    (hW : DataW.Whole enc P f.params.toList s.vars apart W args.toList ds gs before)
    (hres : ∀ (b : Nat) (sp : Nat → Bool) (hd : Bool), DataW.TrodAll enc P W' b sp hd f.resultTypes.toList (v.resultList f.resultTypes.size) (s.fn H (ds ++ gs)).results [])
    (hargs : ∀ sp : Nat → Bool, (∀ p ∈ before, sp p.block = true) → DataW.TrodAll enc P W' 0 sp true f.params.toList args.toList (s.fn H (ds ++ gs)).args pa)
    (hvars : ∀ sp : Nat → Bool, (∀ p ∈ before, sp p.block = true) → DataW.TrodVars enc P W' sp s.vars (s.fn H (ds ++ gs)).vars pv)
    (hps : before = pa ++ pv) (hb : Below W.heap.size W W')
    (hok : ∀ (j : Nat) (t : TypeId) (r : Value), f.resultTypes[j]? = some t → (v.resultList f.resultTypes.size)[j]? = some r → Value.okWide P W' .any 0 t r) :
    s.post enc P f apart fresh handsOn again W args v W' := by
  have hlt : ∀ p ∈ before, p.block < W.heap.size := fun p hp => hW.lt p hp
  have hold : ∀ p ∈ before, (fun b => decide (b < W.heap.size)) p.block = true := fun p hp => by simpa using hlt p hp
  refine ⟨ds, gs, before, [], pa, pv, hW, hres _ _ _, hargs _ hold, hvars _ hold, World.keptBut_mono (fun p hp => ⟨hp, ?_⟩) (hb.frame (· ∈ before)), fun _ => ?_⟩
  · rw [hps, List.mem_append] at hp
    exact Or.inr hp
  · obtain ⟨_, _, _, _, _, hz, hn⟩ := hW
    refine ⟨hok, _, _, ([] ++ pa) ++ pv, ⟨[] ++ pa, pv, trodAll_append (hargs _ (fun _ _ => rfl)) (hres _ _ _), hvars _ (fun _ _ => rfl), rfl, ?_, ?_⟩, ?_⟩
    · intro b off hp
      have hin : MemPlace.cell b off ∈ before := by rw [hps]; simpa using hp
      rw [hb.frozen (hlt _ hin)]
      exact hz b off hin
    · intro ha
      have := hn ha
      rw [hps] at this
      simpa using this
    · intro p hp _
      rw [hps]
      simpa using hp
end

theorem map1 {t : Ty} {r : List Ty} : ∀ {tv : List TV}, tv.map (·.t) = t :: r → ∃ (x : t.den) (tv' : List TV), tv = ⟨t, x⟩ :: tv' ∧ tv'.map (·.t) = r
  | [], h => by simp at h
  | ⟨t', x⟩ :: tv, h => by
    simp only [List.map_cons, List.cons.injEq] at h
    obtain ⟨h1, h2⟩ := h
    subst h1
    exact ⟨x, tv, rfl, h2⟩
theorem map0 {tv : List TV} (h : tv.map (·.t) = []) : tv = [] := by simpa using h

theorem law_calls {P : Program} {f : FuncId} {args : List TV} {W : World} {vs : List Value} (h : FunOK P f args (.rd .bool true)) (ha : ArgsOK W (full W) args vs) :
    Calls P f vs.toArray W fun e W' => e = .returned (.bool true) ∧ Below W.heap.size W W' := by
  refine (h.2 W (full W) vs ha).mono fun e W' hq => ?_
  obtain ⟨v, lim', fp, rfl, hb, _, hr, _⟩ := hq
  simp only [RVok] at hr
  have := hr.1.bool
  subst this
  exact ⟨rfl, hb⟩

end Go.AL
