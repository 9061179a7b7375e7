/- Contracts of what writes the text of a machine. -/
import Derived.Shelf.Strings.OnBuilder
import Derived.Shelf.Strconv.Itoa3
import Derived.Test.YtdpdjbfjjlpfgaaGreatDoorMtx
import Derived.Test.YtdpdjbfjjlpfgaaGreatDoorDrawY
import Derived.Test.YtdpdjbfjjlpfgaaGreatDoorEdges
namespace Go.Proofs.YtdpdjbfjjlpfgaaGreatDoor
open Go Go.RowKit

open Go.Shelf in
def itoaLays_ren : Go.Shelf.Ren := ⟨fun | 171 => 51 | 243 => 65 | 246 => 75 | 283 => 88 | 284 => 89 | 285 => 90 | 286 => 91 | 129 => 98 | 317 => 97 | 318 => 99 | 319 => 100 | 320 => 101 | 337 => 104 | 338 => 105 | n => n, fun | 3 => 3 | 9 => 9 | 2 => 2 | 4 => 4 | 171 => 115 | 0 => 0 | 53 => 94 | 37 => 77 | 5 => 5 | 173 => 118 | 212 => 132 | 51 => 91 | 20 => 20 | 213 => 133 | 46 => 72 | 232 => 140 | 233 => 141 | n => n, fun | 17 => 5 | 18 => 6 | 19 => 7 | n => n⟩
open Go.Shelf in
theorem itoaLays : Go.Proofs.Lays.n171 Tryz.prog itoaLays_ren := {
  mixed := by kernel_rfl
  f129 := Tryz.func98.trans (congrArg some (by kernel_rfl))
  f171 := Tryz.func51.trans (congrArg some (by kernel_rfl))
  f243 := Tryz.func65.trans (congrArg some (by kernel_rfl))
  f246 := Tryz.func75.trans (congrArg some (by kernel_rfl))
  f283 := Tryz.func88.trans (congrArg some (by kernel_rfl))
  f284 := Tryz.func89.trans (congrArg some (by kernel_rfl))
  f285 := Tryz.func90.trans (congrArg some (by kernel_rfl))
  f286 := Tryz.func91.trans (congrArg some (by kernel_rfl))
  f317 := Tryz.func97.trans (congrArg some (by kernel_rfl))
  f318 := Tryz.func99.trans (congrArg some (by kernel_rfl))
  f319 := Tryz.func100.trans (congrArg some (by kernel_rfl))
  f320 := Tryz.func101.trans (congrArg some (by kernel_rfl))
  f337 := Tryz.func104.trans (congrArg some (by kernel_rfl))
  f338 := Tryz.func105.trans (congrArg some (by kernel_rfl))
  t0 := Tryz.underlying0
  a0 := Tryz.isAgg0
  z0 := Tryz.sizeOf0
  v0 := Tryz.zeroValue0
  t2 := Tryz.underlying2
  a2 := Tryz.isAgg2
  z2 := Tryz.sizeOf2
  v2 := Tryz.zeroValue2
  t3 := Tryz.underlying3
  a3 := Tryz.isAgg3
  z3 := Tryz.sizeOf3
  v3 := Tryz.zeroValue3
  t4 := Tryz.underlying4
  a4 := Tryz.isAgg4
  z4 := Tryz.sizeOf4
  v4 := Tryz.zeroValue4
  t5 := Tryz.underlying5
  a5 := Tryz.isAgg5
  z5 := Tryz.sizeOf5
  v5 := Tryz.zeroValue5
  t9 := Tryz.underlying9
  a9 := Tryz.isAgg9
  z9 := Tryz.sizeOf9
  v9 := Tryz.zeroValue9
  t20 := Tryz.underlying20
  a20 := Tryz.isAgg20
  z20 := Tryz.sizeOf20
  v20 := Tryz.zeroValue20
  t37 := Tryz.underlying77
  a37 := Tryz.isAgg77
  z37 := Tryz.sizeOf77
  v37 := Tryz.zeroValue77
  t46 := Tryz.underlying72
  a46 := Tryz.isAgg72
  z46 := Tryz.sizeOf72
  v46 := Tryz.zeroValue72
  t51 := Tryz.underlying91
  a51 := Tryz.isAgg91
  z51 := Tryz.sizeOf91
  v51 := Tryz.zeroValue91
  t53 := Tryz.underlying94
  a53 := Tryz.isAgg94
  z53 := Tryz.sizeOf94
  v53 := Tryz.zeroValue94
  t171 := Tryz.underlying115
  a171 := Tryz.isAgg115
  z171 := Tryz.sizeOf115
  v171 := Tryz.zeroValue115
  t173 := Tryz.underlying118
  a173 := Tryz.isAgg118
  z173 := Tryz.sizeOf118
  v173 := Tryz.zeroValue118
  t212 := Tryz.underlying132
  a212 := Tryz.isAgg132
  z212 := Tryz.sizeOf132
  v212 := Tryz.zeroValue132
  t213 := Tryz.underlying133
  a213 := Tryz.isAgg133
  z213 := Tryz.sizeOf133
  t232 := Tryz.underlying140
  a232 := Tryz.isAgg140
  z232 := Tryz.sizeOf140
  v232 := Tryz.zeroValue140
  t233 := Tryz.underlying141
  a233 := Tryz.isAgg141
  z233 := Tryz.sizeOf141
  v233 := Tryz.zeroValue141
  g17 := by kernel_rfl
  g18 := by kernel_rfl
  g19 := by kernel_rfl }
open Go.Shelf in
def joinLays_ren : Go.Shelf.Ren := ⟨fun | 156 => 40 | 165 => 52 | 166 => 53 | 169 => 54 | 240 => 66 | 241 => 67 | 276 => 76 | 277 => 77 | n => n, fun | 31 => 32 | 9 => 9 | 3 => 3 | 4 => 4 | 0 => 0 | 20 => 20 | 72 => 79 | 76 => 83 | 70 => 76 | 37 => 77 | 75 => 82 | 127 => 98 | 164 => 105 | 5 => 5 | 80 => 85 | n => n, fun | n => n⟩
open Go.Shelf in
theorem joinLays : Go.Proofs.Lays.n156 Tryz.prog joinLays_ren := {
  mixed := by kernel_rfl
  f156 := Tryz.func40.trans (congrArg some (by kernel_rfl))
  f165 := Tryz.func52.trans (congrArg some (by kernel_rfl))
  f166 := Tryz.func53.trans (congrArg some (by kernel_rfl))
  f169 := Tryz.func54.trans (congrArg some (by kernel_rfl))
  f240 := Tryz.func66.trans (congrArg some (by kernel_rfl))
  f241 := Tryz.func67.trans (congrArg some (by kernel_rfl))
  f276 := Tryz.func76.trans (congrArg some (by kernel_rfl))
  f277 := Tryz.func77.trans (congrArg some (by kernel_rfl))
  t0 := Tryz.underlying0
  a0 := Tryz.isAgg0
  z0 := Tryz.sizeOf0
  v0 := Tryz.zeroValue0
  t3 := Tryz.underlying3
  a3 := Tryz.isAgg3
  z3 := Tryz.sizeOf3
  v3 := Tryz.zeroValue3
  t4 := Tryz.underlying4
  a4 := Tryz.isAgg4
  z4 := Tryz.sizeOf4
  v4 := Tryz.zeroValue4
  t9 := Tryz.underlying9
  a9 := Tryz.isAgg9
  z9 := Tryz.sizeOf9
  v9 := Tryz.zeroValue9
  t20 := Tryz.underlying20
  a20 := Tryz.isAgg20
  z20 := Tryz.sizeOf20
  v20 := Tryz.zeroValue20
  t31 := Tryz.underlying32
  a31 := Tryz.isAgg32
  z31 := Tryz.sizeOf32
  v31 := Tryz.zeroValue32
  t37 := Tryz.underlying77
  a37 := Tryz.isAgg77
  z37 := Tryz.sizeOf77
  v37 := Tryz.zeroValue77
  t70 := Tryz.underlying76
  a70 := Tryz.isAgg76
  z70 := Tryz.sizeOf76
  v70 := Tryz.zeroValue76
  t72 := Tryz.underlying79
  a72 := Tryz.isAgg79
  z72 := Tryz.sizeOf79
  v72 := Tryz.zeroValue79
  t75 := Tryz.underlying82
  a75 := Tryz.isAgg82
  z75 := Tryz.sizeOf82
  v75 := Tryz.zeroValue82
  t76 := Tryz.underlying83
  a76 := Tryz.isAgg83
  z76 := Tryz.sizeOf83
  v76 := Tryz.zeroValue83
  t127 := Tryz.underlying98
  a127 := Tryz.isAgg98
  z127 := Tryz.sizeOf98
  v127 := Tryz.zeroValue98
  t164 := Tryz.underlying105
  a164 := Tryz.isAgg105
  z164 := Tryz.sizeOf105
  v164 := Tryz.zeroValue105 }
theorem joinExtra : Builder.Extra Tryz.prog joinLays_ren := {
  sizeBuilder := by kernel_rfl
  liesBuilder := by kernel_rfl
  t5 := Tryz.underlying5
  a5 := Tryz.isAgg5
  z5 := Tryz.sizeOf5
  v5 := Tryz.zeroValue5
  infoByte := by kernel_rfl
  cellsByte := by kernel_rfl
  sizeByte := by kernel_rfl
  neB5 := by decide }
theorem Itoa_spec (n : Int) (h : 0 ≤ n ∧ n < 100) (w : World) : Fn Tryz.prog 51 #[VI n] w (fun v w' => v = .string (bs (Lib.decDigits n.toNat)) ∧ w = w') := by
  obtain ⟨k, rfl⟩ : ∃ k : Nat, n = (k : Int) := ⟨n.toNat, by omega⟩
  refine ⟨by kernel_rfl, (Any.strconv_Itoa_small itoaLays k (by omega) w).mono ?_⟩
  rintro e w' ⟨rfl, rfl⟩
  exact ⟨_, rfl, rfl, rfl⟩
theorem Ext.of_below {w w' : World} (h : Below w.heap.size w w') : Ext w w' := ⟨h.os, h.tape, h.output, h.size, h.block⟩
theorem Join_spec {lo : Nat} {T : TypeId} (a : Option Addr) (c : Nat) (ls : List (List UInt8)) (w : World) (hO : Own lo w T 1 a ls.length c (ls.map vS)) (hn : 0 < ls.length) (hs : Sht 92 ls) : Fn Tryz.prog 40 #[.slice a ls.length c, .string (bs [10])] w (fun v w' => v = .string (bs (Lib.join ls [10])) ∧ Ext w w') := by
  obtain ⟨g, rest, rfl, _, hB, h1, h2, h3, h4⟩ := hO.blk hn
  have e : (ls.map bs).map (·.data.toList) = ls := by
    rw [List.map_map]
    conv => rhs; rw [← List.map_id ls]
    exact List.map_congr_left fun l _ => bs_list l
  have hj := Any.strings_Join joinLays joinExtra g 0 c (ls.map bs) (bs [10]) w (fun j x hx => by
    rw [Nat.zero_add]
    refine hB.cell ?_
    rw [List.getElem?_append_left (by have := (List.getElem?_eq_some_iff.1 hx).1; simpa using this)]
    rw [List.getElem?_map] at hx ⊢
    cases hl : ls[j]? with
    | none => rw [hl] at hx; cases hx
    | some l => rw [hl] at hx; cases hx; rfl) hB.lt (by have := hs.2; simp; omega) (by simpa using h1) (by rw [e, bs_list]; exact join_len hs)
  rw [e, bs_list, List.length_map] at hj
  refine ⟨by kernel_rfl, hj.mono ?_⟩
  rintro e w' ⟨rfl, hb⟩
  exact ⟨_, rfl, rfl, Ext.of_below hb⟩
theorem litI {w : World} {b : Nat} {T : TypeId} {xs : List Int} (n : Nat) (h : Blk w b T (xs.map VI)) (hn : xs.length ≤ n) : Ints b (b + 1) w (some ⟨b, 0, none⟩) n xs := (FInts.of_blk h (Nat.le_refl _) (Nat.lt_succ_self _) hn).is

set_option maxRecDepth 100000 in
theorem wordsLine_spec {lo hi : Nat} (wd : List UInt8) (a : Option Addr) (c : Nat) (xs : List Int) (w : World) (hx : Ints lo hi w a c xs) (hr : (∀ x ∈ xs, -1 ≤ x ∧ x < 100) ∧ xs.length ≤ 10) (hw : wd.length ≤ 1000) :
    Fn Tryz.prog 39 #[.string (bs wd), .slice a xs.length c] w (fun v w' => v = .string (bs (lineW wd xs)) ∧ Ext w w') := by
  have hr2 := hr.2
  have hE := Ext.refl w
  refine Fn_of Tryz.func39 rfl rfl (by kernel_rfl) rfl ?_
  refine W_seq ?_
  refine W_region ?_
  refine WL_q rfl (ev_assign rfl) ?_
  refine WL_nil ?_
  refine thenE_n ?_
  refine W_seq ?_
  refine W_seq ?_
  refine W_region ?_
  refine WL_q rfl (ev_move rfl) ?_
  refine WL_q rfl (ev_len Tryz.underlying24 rfl) ?_
  refine WL_q rfl (ev_move rfl) ?_
  refine WL_nil ?_
  refine thenE_n ?_
  refine W_block ?_
  refine W_loopC (G := Nat) [(7, _), (8, _)] ((Subs.c rfl (Subs.c rfl Subs.n))) (fun i => [(0, .string (bs (lineW wd (xs.take i)))), (9, VI (i : Int))]) (fun i w' => Ext w w' ∧ i ≤ xs.length) (fun i => xs.length - i) 0 ((Subs.c rfl (Subs.c (lkI rfl (by omega)) Subs.n))) (⟨Ext.refl _, Nat.zero_le _⟩) ?_
  rintro i wL0 ⟨hRL0, hi'⟩
  have hzL0 := hRL0.size
  replace hE := hE.trans hRL0
  replace hx := hx.ext hRL0
  have hwl := lineW_len (wd := wd) (xs := xs.take i) (fun x hx => (hr.1 x (List.mem_of_mem_take hx)).2)
  have htk : (xs.take i).length ≤ i := by rw [List.length_take]; omega
  refine W_seq ?_
  refine W_region ?_
  refine WL_q rfl (ev_lss rfl rfl) ?_
  refine WL_nil ?_
  refine thenE_n ?_
  refine W_seq ?_
  refine W_cond rfl (fun hg10 => ?_) (fun hg10 => ?_)
  · have hp10 := of_decide_eq_true hg10
    refine W_skip ?_
    refine thenE_n ?_
    refine W_seq ?_
    refine W_block ?_
    refine W_seq ?_
    refine W_region ?_
    have hlt : i < xs.length := by omega
    have hxi := hr.1 _ (List.getElem_mem hlt)
    have hdl := dec_len (n := xs[i].toNat) (by omega)
    refine WL_q rfl (ev_indexAddr Tryz.underlying24 sz3 rfl rfl (hx.isSome (by omega)) (by omega) (by omega)) ?_
    refine WL_q rfl (ev_load one3 rfl (hx.cell (i := i) (by omega))) ?_
    refine WL_q rfl (ev_assign rfl) ?_
    refine WL_nil ?_
    refine thenE_n ?_
    refine W_seq ?_
    refine W_region ?_
    refine WL_q rfl (ev_move rfl) ?_
    refine WL_q rfl (ev_eql rfl rfl) ?_
    refine WL_nil ?_
    refine thenE_n ?_
    refine W_cond rfl (fun hg14 => ?_) (fun hg14 => ?_)
    · have hp14 := of_decide_eq_true hg14
      refine W_region ?_
      refine WL_q rfl (ev_move rfl) ?_
      refine WL_q rfl (ev_addS (b := [32, 42]) rfl rfl (by (try simp only [List.length_append, List.length_cons, List.length_nil]); omega)) ?_
      refine WL_q rfl (ev_assign rfl) ?_
      refine WL_nil ?_
      refine blockE_n ?_
      refine thenE_n ?_
      refine W_region ?_
      refine WL_q rfl (ev_add rfl rfl (by omega)) ?_
      refine WL_q rfl (ev_move rfl) ?_
      refine WL_nil ?_
      refine thenE_n ?_
      exact ⟨i + 1, (Subs.c rfl (Subs.c rfl Subs.n)), (Subs.c (lkV rfl (line_neg hlt (by omega))) (Subs.c (lkI rfl (by omega)) Subs.n)), ⟨hRL0, by omega⟩, by first | omega | (dsimp only; omega)⟩
    · have hp14 := of_decide_eq_false hg14
      refine W_region ?_
      refine WL_q rfl (ev_move rfl) ?_
      refine WL_q rfl (ev_move rfl) ?_
      refine WL_m rfl (ev_call rfl (Itoa_spec _ (by omega) _)) ?_
      rintro _ _ ⟨rfl, rfl⟩
      refine WL_q rfl (ev_addS (a := [32]) rfl rfl (by (try simp only [List.length_append, List.length_cons, List.length_nil]); omega)) ?_
      refine WL_q rfl (ev_addS rfl rfl (by (try simp only [List.length_append, List.length_cons, List.length_nil]); omega)) ?_
      refine WL_q rfl (ev_assign rfl) ?_
      refine WL_nil ?_
      refine blockE_n ?_
      refine thenE_n ?_
      refine W_region ?_
      refine WL_q rfl (ev_add rfl rfl (by omega)) ?_
      refine WL_q rfl (ev_move rfl) ?_
      refine WL_nil ?_
      refine thenE_n ?_
      exact ⟨i + 1, (Subs.c rfl (Subs.c rfl Subs.n)), (Subs.c (lkV rfl (line_pos hlt (by omega))) (Subs.c (lkI rfl (by omega)) Subs.n)), ⟨hRL0, by omega⟩, by first | omega | (dsimp only; omega)⟩
  · have hp10 := of_decide_eq_false hg10
    refine W_exit ?_
    refine thenE_x ?_
    refine thenE_x ?_
    refine blockE_hit ?_
    refine thenE_n ?_
    refine W_seq ?_
    refine W_region ?_
    refine WL_q rfl (ev_move rfl) ?_
    refine WL_q rfl (ev_assign rfl) ?_
    refine WL_nil ?_
    refine thenE_n ?_
    refine W_ret ?_
    refine ret1 rfl rfl ?_
    exact ⟨by rw [lineW_full (by omega)], hE⟩

theorem num_one {n : Int} (h : 0 ≤ n ∧ n < 10) : [UInt8.ofNat (48 + n).toNat] = Lib.decDigits n.toNat := by
  rw [dec1 (by omega)]; congr 2; omega
theorem num_two {n : Int} (h : 10 ≤ n) : Lib.decDigits (n / 10).toNat ++ [UInt8.ofNat (48 + n % 10).toNat] = Lib.decDigits n.toNat := by
  rw [dec2 (n := n.toNat) (by omega)]
  congr 1
  · congr 1; omega
  · congr 2; omega

set_option maxRecDepth 100000 in
theorem l1Num_1 (n : Int) (w : World) (hn : 0 ≤ n ∧ n < 10) :
    Fn Tryz.prog 42 #[VI n] w (fun v w' => v = .string (bs (Lib.decDigits n.toNat)) ∧ Ext w w') := by
  have hE := Ext.refl w
  refine Fn_of Tryz.func42 rfl rfl (by kernel_rfl) rfl ?_
  refine W_seq ?_
  refine W_region ?_
  refine WL_q rfl (ev_assign rfl) ?_
  refine WL_nil ?_
  refine thenE_n ?_
  refine W_seq ?_
  refine W_seq ?_
  refine W_region ?_
  refine WL_q rfl (ev_move rfl) ?_
  refine WL_q rfl (ev_lss rfl rfl) ?_
  refine WL_nil ?_
  refine thenE_n ?_
  refine W_cond rfl (fun hg4 => ?_) (fun hg4 => ?_)
  · have hp4 := of_decide_eq_true hg4
    refine W_seq ?_
    refine W_region ?_
    refine WL_q rfl (ev_move rfl) ?_
    refine WL_q rfl (ev_add rfl rfl (by omega)) ?_
    refine WL_q rfl (ev_conv (by kernel_rfl) Tryz.underlying5 (by kernel_rfl) rfl (wrap_b (by omega))) ?_
    refine WL_m rfl (ev_lit1 Tryz.underlying77 el5 (by decide) (by decide) rfl rfl) ?_
    rintro _ w8 ⟨rfl, hN8⟩
    have hz8 := hN8.size
    replace hE := hE.trans hN8.ext
    have hB8 := hN8.blk
    refine WL_q rfl (ev_convB1 Tryz.underlying77 (by kernel_rfl) (by kernel_rfl) rfl hB8) ?_
    refine WL_q rfl (ev_assign rfl) ?_
    refine WL_nil ?_
    refine thenE_n ?_
    refine W_ret ?_
    refine thenE_r ?_
    refine ret1 rfl rfl ?_
    exact ⟨by rw [num_one hn], hE⟩
  · have hp4 := of_decide_eq_false hg4
    exfalso; omega

set_option maxRecDepth 100000 in
theorem l1Num_2 (n : Int) (w : World) (hn : 10 ≤ n ∧ n < 100) :
    Fn Tryz.prog 42 #[VI n] w (fun v w' => v = .string (bs (Lib.decDigits n.toNat)) ∧ Ext w w') := by
  have hE := Ext.refl w
  refine Fn_of Tryz.func42 rfl rfl (by kernel_rfl) rfl ?_
  refine W_seq ?_
  refine W_region ?_
  refine WL_q rfl (ev_assign rfl) ?_
  refine WL_nil ?_
  refine thenE_n ?_
  refine W_seq ?_
  refine W_seq ?_
  refine W_region ?_
  refine WL_q rfl (ev_move rfl) ?_
  refine WL_q rfl (ev_lss rfl rfl) ?_
  refine WL_nil ?_
  refine thenE_n ?_
  refine W_cond rfl (fun hg4 => ?_) (fun hg4 => ?_)
  · have hp4 := of_decide_eq_true hg4
    exfalso; omega
  · have hp4 := of_decide_eq_false hg4
    refine W_skip ?_
    refine thenE_n ?_
    refine W_seq ?_
    refine W_drawY (X := Unit) (fun x => [(2, .string (bs (Lib.decDigits n.toNat)))]) (fun x w' => Ext w w') 99 0 0 0 0 0 0 0 0 (.h 0 (.h 1 (.h 3 (.h 4 (.h 5 (.h 6 (.b 2 (.a 7 (.h 8 (.h 9 (.h 10 .done)))) 7 (.h 8 (.a 2 (.h 9 (.h 10 .done))))))))))) mixed (by kernel_rfl) rfl (by kernel_rfl) ?_ ?_
    · intro wd3 hEd3 hzd3
      replace hE := hE.trans hEd3
      have hdl := dec_len (n := (n / 10).toNat) (by omega)
      have hSd3 := (Rg.refl : Rg 0 0 0 0 wd3 wd3)
      have hUd3 := (Rg.refl : Rg 0 0 0 0 wd3 wd3)
      refine PY_h rfl rfl (fun wq hq => ev_move rfl) ?_
      refine PY_h rfl rfl (fun wq hq => ev_quo rfl rfl (by omega) (by omega) (by omega)) ?_
      refine PY_h rfl rfl (fun wq hq => ev_move rfl) ?_
      refine PY_h rfl rfl (fun wq hq => ev_rem rfl rfl (by omega) (by omega)) ?_
      refine PY_h rfl rfl (fun wq hq => ev_add rfl rfl (by omega)) ?_
      refine PY_h rfl rfl (fun wq hq => ev_conv (by kernel_rfl) Tryz.underlying5 (by kernel_rfl) rfl (wrap_b (by omega))) ?_
      refine PY_b ?_ ?_
      · refine PB_m 0 0 0 0 0 0 0 0 rfl rfl (ev_call rfl (l1Num_1 _ _ (by omega))) ?_
        rintro _ w12 ⟨rfl, hE12⟩
        have hz12 := hE12.size
        replace hE := hE.trans hE12
        replace hSd3 := hSd3.trans hE12
        replace hUd3 := hUd3.trans hE12
        refine ⟨fun _ hx => ⟨hSd3.rg hx (by omega), trivial⟩, fun _ hx => ⟨hUd3.rg hx (by omega), trivial⟩, ?_⟩
        have hSd3 := (Rg.refl : Rg 0 0 0 0 w12 w12)
        have hUd3 := (Rg.refl : Rg 0 0 0 0 w12 w12)
        refine PY_a ?_
        refine PB_m 0 0 0 0 0 0 0 0 rfl rfl (ev_lit1 Tryz.underlying77 el5 (by decide) (by decide) rfl rfl) ?_
        rintro _ w17 ⟨rfl, hN17⟩
        have hz17 := hN17.size
        replace hE := hE.trans hN17.ext
        replace hSd3 := hSd3.trans hN17.ext
        replace hUd3 := hUd3.trans hN17.ext
        have hB17 := hN17.blk
        refine ⟨fun _ hx => ⟨hSd3.rg hx (by omega), trivial⟩, fun _ hx => ⟨hUd3.rg hx (by omega), trivial⟩, ?_⟩
        have hSd3 := (Rg.refl : Rg 0 0 0 0 w17 w17)
        have hUd3 := (Rg.refl : Rg 0 0 0 0 w17 w17)
        refine PY_h rfl rfl (fun wq hq => ev_convB1 Tryz.underlying77 (by kernel_rfl) (by kernel_rfl) rfl (hB17.rg hq.1 (by omega))) ?_
        refine PY_h rfl rfl (fun wq hq => ev_addS rfl rfl (by (try simp only [List.length_append, List.length_cons, List.length_nil]); omega)) ?_
        refine PY_h rfl rfl (fun wq hq => ev_assign rfl) ?_
        exact PY_nil 11 () rfl ⟨lkV rfl (congrArg (fun l => Value.string (bs l)) (num_two hn.1)), trivial⟩ rfl hE
      · refine PB_m 0 0 0 0 0 0 0 0 rfl rfl (ev_lit1 Tryz.underlying77 el5 (by decide) (by decide) rfl rfl) ?_
        rintro _ w17 ⟨rfl, hN17⟩
        have hz17 := hN17.size
        replace hE := hE.trans hN17.ext
        replace hSd3 := hSd3.trans hN17.ext
        replace hUd3 := hUd3.trans hN17.ext
        have hB17 := hN17.blk
        refine ⟨fun _ hx => ⟨hSd3.rg hx (by omega), trivial⟩, fun _ hx => ⟨hUd3.rg hx (by omega), trivial⟩, ?_⟩
        have hSd3 := (Rg.refl : Rg 0 0 0 0 w17 w17)
        have hUd3 := (Rg.refl : Rg 0 0 0 0 w17 w17)
        refine PY_h rfl rfl (fun wq hq => ev_convB1 Tryz.underlying77 (by kernel_rfl) (by kernel_rfl) rfl (hB17.rg hq.1 (by omega))) ?_
        refine PY_a ?_
        refine PB_m 0 0 0 0 0 0 0 0 rfl rfl (ev_call rfl (l1Num_1 _ _ (by omega))) ?_
        rintro _ w12 ⟨rfl, hE12⟩
        have hz12 := hE12.size
        replace hE := hE.trans hE12
        replace hSd3 := hSd3.trans hE12
        replace hUd3 := hUd3.trans hE12
        replace hB17 := hB17.ext hE12
        refine ⟨fun _ hx => ⟨hSd3.rg hx (by omega), trivial⟩, fun _ hx => ⟨hUd3.rg hx (by omega), trivial⟩, ?_⟩
        have hSd3 := (Rg.refl : Rg 0 0 0 0 w12 w12)
        have hUd3 := (Rg.refl : Rg 0 0 0 0 w12 w12)
        refine PY_h rfl rfl (fun wq hq => ev_addS rfl rfl (by (try simp only [List.length_append, List.length_cons, List.length_nil]); omega)) ?_
        refine PY_h rfl rfl (fun wq hq => ev_assign rfl) ?_
        exact PY_nil 11 () rfl ⟨lkV rfl (congrArg (fun l => Value.string (bs l)) (num_two hn.1)), trivial⟩ rfl hE
    rintro _ wt3 hE
    dsimp only [List.cons_append, List.nil_append]
    refine thenE_n ?_
    refine W_ret ?_
    refine ret1 rfl rfl ?_
    exact ⟨rfl, hE⟩

theorem l1Num_spec (n : Int) (w : World) (hn : 0 ≤ n ∧ n < 100) : Fn Tryz.prog 42 #[VI n] w (fun v w' => v = .string (bs (Lib.decDigits n.toNat)) ∧ Ext w w') := by
  by_cases h : n < 10
  · exact l1Num_1 n w ⟨hn.1, h⟩
  · exact l1Num_2 n w ⟨by omega, hn.2⟩

set_option maxRecDepth 100000 in
theorem maLine_spec {lo hi : Nat} (wd : List UInt8) (a : Option Addr) (c : Nat) (xs : List Int) (w : World) (hx : Ints lo hi w a c xs) (hr : (∀ x ∈ xs, -1 ≤ x ∧ x < 100) ∧ xs.length ≤ 10) (hw : wd.length ≤ 1000) :
    Fn Tryz.prog 30 #[.string (bs wd), .slice a xs.length c] w (fun v w' => v = .string (bs (lineW wd xs)) ∧ Ext w w') := by
  have hr2 := hr.2
  have hE := Ext.refl w
  refine Fn_of Tryz.func30 rfl rfl (by kernel_rfl) rfl ?_
  refine W_seq ?_
  refine W_region ?_
  refine WL_q rfl (ev_assign rfl) ?_
  refine WL_nil ?_
  refine thenE_n ?_
  refine W_seq ?_
  refine W_seq ?_
  refine W_region ?_
  refine WL_q rfl (ev_move rfl) ?_
  refine WL_q rfl (ev_len Tryz.underlying24 rfl) ?_
  refine WL_q rfl (ev_move rfl) ?_
  refine WL_nil ?_
  refine thenE_n ?_
  refine W_block ?_
  refine W_loopC (G := Nat) [(7, _), (8, _)] ((Subs.c rfl (Subs.c rfl Subs.n))) (fun i => [(0, .string (bs (lineW wd (xs.take i)))), (9, VI (i : Int))]) (fun i w' => Ext w w' ∧ i ≤ xs.length) (fun i => xs.length - i) 0 ((Subs.c rfl (Subs.c (lkI rfl (by omega)) Subs.n))) (⟨Ext.refl _, Nat.zero_le _⟩) ?_
  rintro i wL0 ⟨hRL0, hi'⟩
  have hzL0 := hRL0.size
  replace hE := hE.trans hRL0
  replace hx := hx.ext hRL0
  have hwl := lineW_len (wd := wd) (xs := xs.take i) (fun x hx => (hr.1 x (List.mem_of_mem_take hx)).2)
  have htk : (xs.take i).length ≤ i := by rw [List.length_take]; omega
  refine W_seq ?_
  refine W_region ?_
  refine WL_q rfl (ev_lss rfl rfl) ?_
  refine WL_nil ?_
  refine thenE_n ?_
  refine W_seq ?_
  refine W_cond rfl (fun hg10 => ?_) (fun hg10 => ?_)
  · have hp10 := of_decide_eq_true hg10
    refine W_skip ?_
    refine thenE_n ?_
    refine W_seq ?_
    refine W_block ?_
    refine W_seq ?_
    refine W_region ?_
    have hlt : i < xs.length := by omega
    have hxi := hr.1 _ (List.getElem_mem hlt)
    have hdl := dec_len (n := xs[i].toNat) (by omega)
    refine WL_q rfl (ev_indexAddr Tryz.underlying24 sz3 rfl rfl (hx.isSome (by omega)) (by omega) (by omega)) ?_
    refine WL_q rfl (ev_load one3 rfl (hx.cell (i := i) (by omega))) ?_
    refine WL_q rfl (ev_assign rfl) ?_
    refine WL_nil ?_
    refine thenE_n ?_
    refine W_seq ?_
    refine W_region ?_
    refine WL_q rfl (ev_move rfl) ?_
    refine WL_q rfl (ev_lss rfl rfl) ?_
    refine WL_nil ?_
    refine thenE_n ?_
    refine W_cond rfl (fun hg14 => ?_) (fun hg14 => ?_)
    · have hp14 := of_decide_eq_true hg14
      refine W_region ?_
      refine WL_q rfl (ev_move rfl) ?_
      refine WL_q rfl (ev_addS (b := [32, 42]) rfl rfl (by (try simp only [List.length_append, List.length_cons, List.length_nil]); omega)) ?_
      refine WL_q rfl (ev_assign rfl) ?_
      refine WL_nil ?_
      refine blockE_n ?_
      refine thenE_n ?_
      refine W_region ?_
      refine WL_q rfl (ev_add rfl rfl (by omega)) ?_
      refine WL_q rfl (ev_move rfl) ?_
      refine WL_nil ?_
      refine thenE_n ?_
      exact ⟨i + 1, (Subs.c rfl (Subs.c rfl Subs.n)), (Subs.c (lkV rfl (line_neg hlt (by omega))) (Subs.c (lkI rfl (by omega)) Subs.n)), ⟨hRL0, by omega⟩, by first | omega | (dsimp only; omega)⟩
    · have hp14 := of_decide_eq_false hg14
      refine W_region ?_
      refine WL_q rfl (ev_move rfl) ?_
      refine WL_q rfl (ev_move rfl) ?_
      refine WL_m rfl (ev_call rfl (l1Num_spec _ _ (by omega))) ?_
      rintro _ w19 ⟨rfl, hE19⟩
      have hz19 := hE19.size
      replace hE := hE.trans hE19
      replace hRL0 := hRL0.trans hE19
      replace hx := hx.ext hE19
      refine WL_q rfl (ev_addS (a := [32]) rfl rfl (by (try simp only [List.length_append, List.length_cons, List.length_nil]); omega)) ?_
      refine WL_q rfl (ev_addS rfl rfl (by (try simp only [List.length_append, List.length_cons, List.length_nil]); omega)) ?_
      refine WL_q rfl (ev_assign rfl) ?_
      refine WL_nil ?_
      refine blockE_n ?_
      refine thenE_n ?_
      refine W_region ?_
      refine WL_q rfl (ev_add rfl rfl (by omega)) ?_
      refine WL_q rfl (ev_move rfl) ?_
      refine WL_nil ?_
      refine thenE_n ?_
      exact ⟨i + 1, (Subs.c rfl (Subs.c rfl Subs.n)), (Subs.c (lkV rfl (line_pos hlt (by omega))) (Subs.c (lkI rfl (by omega)) Subs.n)), ⟨hRL0, by omega⟩, by first | omega | (dsimp only; omega)⟩
  · have hp10 := of_decide_eq_false hg10
    refine W_exit ?_
    refine thenE_x ?_
    refine thenE_x ?_
    refine blockE_hit ?_
    refine thenE_n ?_
    refine W_seq ?_
    refine W_region ?_
    refine WL_q rfl (ev_move rfl) ?_
    refine WL_q rfl (ev_assign rfl) ?_
    refine WL_nil ?_
    refine thenE_n ?_
    refine W_ret ?_
    refine ret1 rfl rfl ?_
    exact ⟨by rw [lineW_full (by omega)], hE⟩

end Go.Proofs.YtdpdjbfjjlpfgaaGreatDoor
