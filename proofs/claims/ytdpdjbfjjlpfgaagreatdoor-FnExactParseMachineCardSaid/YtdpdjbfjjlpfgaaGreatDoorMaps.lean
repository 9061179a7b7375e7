/- Maps that a call makes: one is made, keys are looked up, new keys are put in; arrays of cells. No condition. -/
import Derived.Test.YtdpdjbfjjlpfgaaGreatDoorMore
import Derived.Maps.Keyed
import Derived.DeepKeys5
namespace Go.Proofs.YtdpdjbfjjlpfgaaGreatDoor
open Go Go.RowKit Go.Maps

def GoodK (P : Program) (K : TypeId) (v : Value) : Prop := ∃ l, keyOf P K v = some l
/-- Block b is a map with these entries, in the order in which they came. -/
structure Mp {κ μ : Type} (P : Program) (K : TypeId) (ek : κ → Value) (em : μ → Value) (w : World) (b : Nat) (kvs : List (κ × μ)) : Prop where
  obj : ∃ es clock, w.heap[b]? = some (.map es clock) ∧ es.toList.map (fun e => (e.key, e.val)) = kvs.map (fun p => (ek p.1, em p.2))
  nodup : (kvs.map Prod.fst).Nodup
  good : ∀ p ∈ kvs, GoodK P K (ek p.1)
def alook {κ μ : Type} [DecidableEq κ] (kvs : List (κ × μ)) (k : κ) : Option μ := (kvs.find? fun p => decide (p.1 = k)).map Prod.snd
theorem alook_mem {κ μ : Type} [DecidableEq κ] : ∀ {kvs : List (κ × μ)} {p : κ × μ}, (kvs.map Prod.fst).Nodup → p ∈ kvs → alook kvs p.1 = some p.2 := by
  intro kvs
  induction kvs with
  | nil => intro p _ h; simp at h
  | cons q r ih =>
    intro p hn hp
    rw [List.map_cons, List.nodup_cons] at hn
    rcases List.mem_cons.1 hp with rfl | hp
    · simp [alook]
    · have hne : q.1 ≠ p.1 := fun e => hn.1 (e ▸ List.mem_map_of_mem hp)
      have := ih hn.2 hp
      unfold alook at this ⊢
      rw [List.find?_cons_of_neg (by simpa using hne)]
      exact this
theorem alook_none {κ μ : Type} [DecidableEq κ] {kvs : List (κ × μ)} {k : κ} : alook kvs k = none ↔ ∀ p ∈ kvs, p.1 ≠ k := by
  simp [alook, List.find?_eq_none]
theorem alook_not {κ μ : Type} [DecidableEq κ] {kvs : List (κ × μ)} {k : κ} (h : (alook kvs k).isSome = false) : k ∉ kvs.map Prod.fst := by
  rw [Option.isSome_eq_false_iff, Option.isNone_iff_eq_none, alook_none] at h
  intro hm
  obtain ⟨p, hp, rfl⟩ := List.mem_map.1 hm
  exact h p hp rfl
section
variable {κ μ : Type} {P : Program} {K : TypeId} {ek : κ → Value} {em : μ → Value} {w w' : World} {b : Nat} {kvs : List (κ × μ)}
theorem Mp.lt (h : Mp P K ek em w b kvs) : b < w.heap.size := by obtain ⟨es, cl, h1, _⟩ := h.obj; exact (Array.getElem?_eq_some_iff.1 h1).1
theorem Mp.keep {F : Nat → Prop} (h : Mp P K ek em w b kvs) (k : Keep F w w') (hF : F b) : Mp P K ek em w' b kvs := ⟨by obtain ⟨es, cl, h1, h2⟩ := h.obj; exact ⟨es, cl, (k.block b hF).trans h1, h2⟩, h.nodup, h.good⟩
theorem Mp.ext (h : Mp P K ek em w b kvs) (k : Ext w w') : Mp P K ek em w' b kvs := h.keep k h.lt
theorem Mp.sto {g : Nat} {T : TypeId} {ds : List Value} (h : Mp P K ek em w b kvs) (k : Sto w w' g T ds) (hb : b ≠ g) : Mp P K ek em w' b kvs := h.keep k.keep hb
theorem Mp.kx {g : Nat} (h : Mp P K ek em w b kvs) (k : KX g w w') (hb : b ≠ g) : Mp P K ek em w' b kvs := h.keep k ⟨h.lt, hb⟩
theorem Mp.rg {lo hi p q : Nat} (h : Mp P K ek em w b kvs) (k : Rg lo hi p q w w') (hb : b < lo ∨ hi ≤ b ∨ (p ≤ b ∧ b < q)) : Mp P K ek em w' b kvs := h.keep k ⟨h.lt, hb⟩
theorem Mp.lo {g : Nat} (h : Mp P K ek em w b kvs) (k : Lo g w w') (hb : b < g) : Mp P K ek em w' b kvs := h.keep k.2 hb
theorem Mp.find [DecidableEq κ] (law : Keyed P K) (inj : ∀ x y, ek x = ek y → x = y) (h : Mp P K ek em w b kvs) {k : κ} (hk : GoodK P K (ek k)) :
    ∃ es clock, w.heap[b]? = some (.map es clock) ∧ es.toList.map (fun e => (e.key, e.val)) = kvs.map (fun p => (ek p.1, em p.2)) ∧ (∀ c w', (Instr.checkKey c 10000 K (ek k)).run P w' = .ok () w') ∧
      ((alook kvs k = none ∧ (Instr.findKey K (ek k) es.toList).run P w = .ok none w) ∨ ∃ v j, alook kvs k = some v ∧ (Instr.findKey K (ek k) es.toList).run P w = .ok (some (j, em v)) w) := by
  obtain ⟨es, cl, h1, h2⟩ := h.obj
  obtain ⟨l, hl⟩ := hk
  refine ⟨es, cl, h1, h2, fun c w' => law.check w' c hl, ?_⟩
  have hm : ∀ e ∈ es.toList, ∃ p ∈ kvs, e.key = ek p.1 ∧ e.val = em p.2 := fun e he => by
    have : (e.key, e.val) ∈ kvs.map (fun p => (ek p.1, em p.2)) := h2 ▸ List.mem_map_of_mem (f := fun e : MapEntry => (e.key, e.val)) he
    obtain ⟨p, hp, e2⟩ := List.mem_map.1 this
    simp only [Prod.mk.injEq] at e2
    exact ⟨p, hp, e2.1.symm, e2.2.symm⟩
  rcases law.find w hl es.toList (fun e he => by obtain ⟨p, hp, e1, _⟩ := hm e he; rw [e1]; exact h.good p hp) with ⟨r1, r2⟩ | ⟨j, e, r1, r2, r3⟩
  · refine .inl ⟨alook_none.2 fun p hp e1 => ?_, r1⟩
    have : (ek p.1, em p.2) ∈ es.toList.map (fun e => (e.key, e.val)) := h2 ▸ List.mem_map_of_mem (f := fun p : κ × μ => (ek p.1, em p.2)) hp
    obtain ⟨e, he, e2⟩ := List.mem_map.1 this
    simp only [Prod.mk.injEq] at e2
    exact r2 e he (by rw [e2.1, e1])
  · obtain ⟨p, hp, e1, e2⟩ := hm e (List.mem_of_getElem? r2)
    have hpk : p.1 = k := inj _ _ (e1.symm.trans r3)
    refine .inr ⟨p.2, j, ?_, by rw [← e2]; exact r1⟩
    rw [← hpk]; exact alook_mem h.nodup hp
end
section
variable {κ μ : Type} [DecidableEq κ] {P : Program} {L : Env} {ty T K E : TypeId} {ek : κ → Value} {em : μ → Value} {w : World} {x y z : Operand} {b : Nat} {kvs : List (κ × μ)} {k : κ}
omit [DecidableEq κ] in
theorem ev_makeMap : EvM P L (.makeMap T none) ty w (fun r w' => r = .map (some w.heap.size) ∧ Ext w w' ∧ w'.heap.size = w.heap.size + 1 ∧ Mp P K ek em w' w.heap.size ([] : List (κ × μ))) := by
  intro ρ hρ d p f g
  simp only [execOp, Option.map_none, Sem.run_bind]
  rw [show (Instr.makeMap T none).run P w = .ok (.map (some w.heap.size)) (w.alloc (.map #[] 0)) from rfl]
  simp only [Result.andThen_ok, Sem.run_pure, OpOk]
  exact ⟨trivial, ⟨rfl, rfl, rfl, by simp, fun k hk => Below.heap_alloc w _ k hk⟩, by simp, ⟨⟨#[], 0, heap_alloc_new w _, rfl⟩, by simp, fun p hp => by simp at hp⟩⟩
theorem ev_lookup2 (law : Keyed P K) (inj : ∀ x y, ek x = ek y → x = y) (ht : P.underlying T = some (.map K E)) {zv : Value} (hz : zero? P E = some zv) (hx : ev L x = some (.map (some b))) (hy : ev L y = some (ek k)) (h : Mp P K ek em w b kvs) (hk : GoodK P K (ek k)) :
    EvR P L (.lookup T x y true) ty w (.tuple #[((alook kvs k).map em).getD zv, .bool (alook kvs k).isSome]) := by
  intro ρ hρ d p f g
  obtain ⟨es, cl, h1, h2, h3, h4⟩ := h.find law inj hk
  simp only [execOp, hρ x _ hx, hρ y _ hy]
  rcases h4 with ⟨h4, h5⟩ | ⟨v, j, h4, h5⟩
  · rw [h4]
    simp [Instr.lookup, run_underlying ht, MapKept.run_getObj_map h1, h3, h5, run_zero hz, Result.andThen]
  · rw [h4]
    simp [Instr.lookup, run_underlying ht, MapKept.run_getObj_map h1, h3, h5, Result.andThen]
theorem ev_lookup1 (law : Keyed P K) (inj : ∀ x y, ek x = ek y → x = y) (ht : P.underlying T = some (.map K E)) {zv : Value} (hz : zero? P E = some zv) (hx : ev L x = some (.map (some b))) (hy : ev L y = some (ek k)) (h : Mp P K ek em w b kvs) (hk : GoodK P K (ek k)) :
    EvR P L (.lookup T x y false) ty w (((alook kvs k).map em).getD zv) := by
  intro ρ hρ d p f g
  obtain ⟨es, cl, h1, h2, h3, h4⟩ := h.find law inj hk
  simp only [execOp, hρ x _ hx, hρ y _ hy]
  rcases h4 with ⟨h4, h5⟩ | ⟨v, j, h4, h5⟩
  · rw [h4]
    simp [Instr.lookup, run_underlying ht, MapKept.run_getObj_map h1, h3, h5, run_zero hz, Result.andThen]
  · rw [h4]
    simp [Instr.lookup, run_underlying ht, MapKept.run_getObj_map h1, h3, h5, Result.andThen]
omit [DecidableEq κ] in
theorem getD_vi (o : Option Int) : (o.map VI).getD (VI 0) = VI (o.getD 0) := by cases o <;> rfl
theorem ev_lookup2I {kvs : List (κ × Int)} (law : Keyed P K) (inj : ∀ x y, ek x = ek y → x = y) (ht : P.underlying T = some (.map K E)) (hz : zero? P E = some (VI 0)) (hx : ev L x = some (.map (some b))) (hy : ev L y = some (ek k)) (h : Mp P K ek VI w b kvs) (hk : GoodK P K (ek k)) :
    EvR P L (.lookup T x y true) ty w (.tuple #[VI ((alook kvs k).getD 0), .bool (alook kvs k).isSome]) := by
  rw [← getD_vi]; exact ev_lookup2 law inj ht hz hx hy h hk
theorem ev_lookup1I {kvs : List (κ × Int)} (law : Keyed P K) (inj : ∀ x y, ek x = ek y → x = y) (ht : P.underlying T = some (.map K E)) (hz : zero? P E = some (VI 0)) (hx : ev L x = some (.map (some b))) (hy : ev L y = some (ek k)) (h : Mp P K ek VI w b kvs) (hk : GoodK P K (ek k)) :
    EvR P L (.lookup T x y false) ty w (VI ((alook kvs k).getD 0)) := by
  rw [← getD_vi]; exact ev_lookup1 law inj ht hz hx hy h hk
/-- m[k] = v, k is new. -/
theorem ev_mapNew {m : μ} (law : Keyed P K) (inj : ∀ x y, ek x = ek y → x = y) (ht : P.underlying T = some (.map K E)) (hx : ev L x = some (.map (some b))) (hy : ev L y = some (ek k)) (hz : ev L z = some (em m)) (h : Mp P K ek em w b kvs) (hk : GoodK P K (ek k)) (hn : k ∉ kvs.map Prod.fst) :
    EvM P L (.mapUpdate T x y z) ty w (fun _ w' => KX b w w' ∧ w'.heap.size = w.heap.size ∧ Mp P K ek em w' b (kvs ++ [(k, m)])) := by
  intro ρ hρ d p f g
  obtain ⟨es, cl, h1, h2, h3, h4⟩ := h.find law inj hk
  have hlt := h.lt
  have hno : alook kvs k = none := alook_none.2 fun p hp e => hn (List.mem_map.2 ⟨p, hp, e⟩)
  rcases h4 with ⟨_, h5⟩ | ⟨v, j, h4, _⟩
  · have hr : (Instr.mapUpdate T (.map (some b)) (ek k) (em m)).run P w = .ok () { w with heap := w.heap.setIfInBounds b (.map (es.push ⟨ek k, em m, cl⟩) (cl + 1)) } := by
      simp [Instr.mapUpdate, run_underlying ht, MapKept.run_getObj_map h1, h3, h5, MapKept.run_setObj_map _ h1, Result.andThen]
    simp only [execOp, hρ x _ hx, hρ y _ hy, hρ z _ hz, Sem.run_bind, hr, Result.andThen_ok, Sem.run_pure, OpOk]
    refine ⟨⟨rfl, rfl, rfl, by simp, fun i hi => ?_⟩, by simp, ⟨⟨es.push ⟨ek k, em m, cl⟩, cl + 1, by simp [hlt], ?_⟩, ?_, fun p hp => ?_⟩⟩
    · simp only [Array.getElem?_setIfInBounds]
      rw [if_neg (fun e => hi.2 e.symm)]
    · simp [h2]
    · rw [List.map_append, List.nodup_append]
      refine ⟨h.nodup, by simp, fun a ha c hc e => ?_⟩
      simp at hc
      subst hc e
      exact hn ha
    · rcases List.mem_append.1 hp with hp | hp
      · exact h.good p hp
      · rw [List.mem_singleton] at hp; subst hp; exact hk
  · rw [hno] at h4; cases h4
omit [DecidableEq κ] in
theorem ev_len_map (ht : P.underlying T = some (.map K E)) (hx : ev L x = some (.map (some b))) (h : Mp P K ek em w b kvs) : EvR P L (.call ⟨.builtin .len, #[x], #[T]⟩) ty w (VI (kvs.length : Int)) := by
  intro ρ hρ d p f g
  obtain ⟨es, cl, h1, h2⟩ := h.obj
  have hl : es.size = kvs.length := by have := congrArg List.length h2; simpa using this
  simp [execOp, resolve, invoke, builtin, hρ x _ hx, Builtin.len_, run_underlying ht, MapKept.run_getObj_map h1, hl, goInt]
end
/-! ### Arrays of one-cell elements -/
section
variable {P : Program} {L : Env} {ty T E : TypeId} {w : World} {x y : Operand} {v u : Value} {k : Int}
theorem ev_indexAddrA {bl off n sz : Nat} (ht : P.underlying T = some (.array n E)) (hs : size? P E = some sz) (hx : ev L x = some (ptr bl off)) (hy : ev L y = some (VI k)) (h0 : 0 ≤ k) (h1 : k < n) : EvR P L (.indexAddr T x y) ty w (ptr bl (off + k.toNat * sz)) := by
  intro ρ hρ d p f g
  simp [execOp, hρ x _ hx, hρ y _ hy, Instr.indexAt, asIntOf, Instr.sureAddr, run_underlying ht, run_sizeOf hs, h0, h1, Addr.add_lit]
theorem ev_loadsA {bl off n m : Nat} {cs : List Value} (ht : P.underlying T = some (.array m E)) (hs : size? P T = some n) (hx : ev L x = some (ptr bl off))
    (hc : ∀ j (h : j < cs.length), w.cell? ⟨bl, off + j, none⟩ = some cs[j]) (hn : cs.length = n) : EvR P L (.load T x) ty w (.agg cs.toArray) := by
  intro ρ hρ d p f g
  subst hn
  have := run_loadCellsFrom (P := P) (w := w) bl off cs 0 #[] (by simpa using hc)
  simp [execOp, hρ x _ hx, Instr.loadAt, Instr.sureAddr, loadVar, isAgg, run_underlying ht, run_sizeOf hs, loadCells, this]
theorem ev_buildA2 {n m : Nat} (ht : P.underlying T = some (.array n E)) (hs : size? P E = some 1) (hz : zero? P T = some (.agg (List.replicate (m + 2) (VI 0)).toArray)) (hx : ev L x = some v) (hy : ev L y = some u) (h1 : v.cells = #[v]) (h2 : u.cells = #[u]) :
    EvR P L (.build T #[(0, x), (1, y)]) ty w (.agg (v :: u :: List.replicate m (VI 0)).toArray) := by
  intro ρ hρ d p f g
  have hc : ∀ X : Array Value, (Value.agg X).cells = X := fun _ => rfl
  simp [execOp, hρ x _ hx, hρ y _ hy, Instr.build, run_zero hz, run_underlying ht, run_sizeOf hs, Instr.fill, hc, h1, h2, List.replicate_succ]
  rw [if_neg (by omega)]
  rfl
theorem mapM_some' {α β : Type} {f : α → Option β} {g : α → β} : ∀ {l : List α}, (∀ a ∈ l, f a = some (g a)) → l.mapM f = some (l.map g)
  | [], _ => rfl
  | a :: r, h => by
    rw [List.mapM_cons, h a (List.mem_cons_self ..), mapM_some' (l := r) fun b hb => h b (List.mem_cons_of_mem _ hb)]
    rfl
theorem goodK_arr {K : TypeId} {n : Nat} (hu : P.underlying K = some (.array n E)) (hE : P.underlying E = some (.int .i64)) (hc : P.cellsOf E = 1) (hcK : P.cellsOf K = n) (hkt : P.keyType K = true) {l : List Int} (hl : l.length = n) (hr : ∀ x ∈ l, I64 x) :
    GoodK P K (.agg (l.map VI).toArray) := by
  subst hl
  have hw : ∀ x ∈ l, (Lit.int .i64 x).wf = true := fun x hx => WalkArith.wf_i64 (hr x hx)
  have hm : (List.range l.length).mapM (fun i => P.keyLits P.types.size E (((l.map VI).drop (i * P.cellsOf E)).take (P.cellsOf E))) = some ((List.range l.length).map fun i => [Lit.int .i64 (l.getD i 0)]) := by
    refine mapM_some' fun i hi => ?_
    have hi' : i < l.length := List.mem_range.1 hi
    have e : ((l.map VI).drop (i * P.cellsOf E)).take (P.cellsOf E) = [VI (l.getD i 0)] := by
      rw [hc, Nat.mul_one, List.drop_eq_getElem_cons (by simpa using hi')]
      simp [List.getD, hi']
    have hmem : l.getD i 0 ∈ l := by simp [List.getD, hi']
    have hwf := hw _ hmem
    rw [e]
    generalize l.getD i 0 = z at hwf
    have hpos : P.types.size ≠ 0 := fun h0 => by
      have : (P.underlying E).isSome = true := by rw [hE]; rfl
      simp [Program.keyType, Program.keyTypeAt, h0, hu] at hkt
    obtain ⟨m, hm⟩ := Nat.exists_eq_succ_of_ne_zero hpos
    rw [hm]
    simp [Program.keyLits, hE, hwf]
  have hk : P.keyLits (P.types.size + 1) K (Value.agg (l.map VI).toArray).cells.toList = some (((List.range l.length).map fun i => [Lit.int .i64 (l.getD i 0)]).flatten) := by
    show P.keyLits (P.types.size + 1) K (l.map VI) = _
    rw [Program.keyLits.eq_def]
    simp only [hu]
    rw [if_pos (by simp [hcK]), hm]
    rfl
  have hf : (Value.agg (l.map VI).toArray).formed P K = true := by simp [Value.formed, hu, hcK]
  refine ⟨.string (keyBytes (((List.range l.length).map fun i => [Lit.int .i64 (l.getD i 0)]).flatten)), ?_⟩
  unfold keyOf
  simp only [hu]
  rw [if_pos (by rw [hkt, hf]; rfl), hk]
  rfl
end
end Go.Proofs.YtdpdjbfjjlpfgaaGreatDoor
