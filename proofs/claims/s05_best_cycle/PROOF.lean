import PyProof.Rows.All
import Wide.All
import OpenK.AllK
import Wide.FinOn
import Open.SpecLaws
import KE.OsHead
import KE.OsGo
import HandS.ForSpec
import HandS.Comp
import HandS.Iter
import HandS.Walk
import PySem.Challenge.RW_juicefilters_s05_best_cycle
set_option Elab.async false
set_option linter.all false
set_option maxRecDepth 100000
set_option maxHeartbeats 4000000
namespace Jf
open PySem PySem.Spec PyProof.Rows L2
open PySem.W (Codec)
/-! ### the text by places -/
def topS (i : Nat) : Stmt := PySem.Challenge.pw_juicefilters_s05_best_cycle.main.body.getD i (.Pass ⟨0, 0, 0, 0⟩)
abbrev s_is_washing : Stmt := topS 4
theorem sc_is_washing : FnScope ["w"] ["w"] (defScope s_is_washing) := ⟨rfl, rfl, rfl, by decide +kernel, rfl, by decide +kernel, by decide +kernel⟩
abbrev s_through : Stmt := topS 8
theorem sc_through : FnScope ["cake"] ["cake"] (defScope s_through) := ⟨rfl, rfl, rfl, by decide +kernel, rfl, by decide +kernel, by decide +kernel⟩
abbrev s_through_in : Stmt := topS 9
theorem sc_through_in : FnScope ["n", "cake"] ["n"] (defScope s_through_in) := ⟨rfl, rfl, rfl, by decide +kernel, rfl, by decide +kernel, by decide +kernel⟩
abbrev s_brings_more : Stmt := topS 10
theorem sc_brings_more : FnScope ["n", "other", "w"] ["n", "other", "w"] (defScope s_brings_more) := ⟨rfl, rfl, rfl, by decide +kernel, rfl, by decide +kernel, by decide +kernel⟩
abbrev s_best_length : Stmt := topS 11
theorem sc_best_length : FnScope ["w", "best", "n"] ["w"] (defScope s_best_length) := ⟨rfl, rfl, rfl, by decide +kernel, rfl, by decide +kernel, by decide +kernel⟩
abbrev s_best_cycle : Stmt := topS 13
theorem sc_best_cycle : FnScope ["w", "n"] ["w"] (defScope s_best_cycle) := ⟨rfl, rfl, rfl, by decide +kernel, rfl, by decide +kernel, by decide +kernel⟩
/-! ### the mathematics -/
theorem flow_is (c : Nat) : (10000 : Int) / (10 + (c : Int)) = ((Kzb4.flow c : Nat) : Int) := by
  unfold Kzb4.flow
  rw [Int.natCast_ediv, Int.natCast_add]
  rfl
theorem sum_from : ∀ (l : List Nat) (a : Nat), ((l.foldl (· + ·) a : Nat) : Int) = (a : Int) + (l.map fun x : Nat => (x : Int)).sum
  | [], a => by
    show (a : Int) = (a : Int) + ([] : List Int).sum
    rw [List.sum_nil]
    omega
  | x :: r, a => by
    have ih := sum_from r (a + x)
    show ((r.foldl (· + ·) (a + x) : Nat) : Int) = (a : Int) + ((x : Int) :: r.map fun x : Nat => (x : Int)).sum
    rw [ih, List.sum_cons]
    omega
theorem sum_is (l : List Nat) : (l.map fun x : Nat => (x : Int)).sum = ((Kzb1.sum l : Nat) : Int) := by
  have h := sum_from l 0
  show _ = ((l.foldl (· + ·) 0 : Nat) : Int)
  rw [h]
  omega
def cycleOn (w : Nat) (i : Nat) : Nat := (List.range i).foldl (fun b k => if Kzb4.better w (k + 1) b then k + 1 else b) 1
theorem cycleOn_succ (w i : Nat) : cycleOn w (i + 1) = if Kzb4.better w (i + 1) (cycleOn w i) = true then i + 1 else cycleOn w i := by
  unfold cycleOn
  rw [List.range_succ, List.foldl_append]
  rfl
theorem cycleOn_one (w : Nat) : cycleOn w 1 = 1 := by
  rw [cycleOn_succ]
  show (if _ then (0 : Nat) + 1 else 1) = 1
  split <;> rfl
theorem cycleOn_le (w : Nat) : ∀ i, cycleOn w i ≤ i + 1
  | 0 => Nat.le_refl _
  | i + 1 => by
    rw [cycleOn_succ]
    have ih := cycleOn_le w i
    split <;> omega
/-! ### a def that may be called by its name -/
structure Has (P : Program) (w : World) (K : PySem.W.Frag) (mg : Str → Option Value) (base : Heap) (x : Str) (k : Nat) (ps : List Str) (sp : Sp) (f : Addr) (fd : FuncData) : Prop where
  ok : FnOk P w K mg base CX0 k f fd ps sp
  at_ : mg x = some (.ref f)
  kp : PySem.W.keepIn K (.ref f) = true
  bd : Binds K fd ps []
theorem pe_has {X : Cx} {x : Str} {k : Nat} {ps : List Str} {sp : Sp} {f : Addr} {fd : FuncData} {e : Expr} {es : List Expr} {t : TA} {p pos : Pos} (G : Has X.prog X.w X.K X.mg X.base x k ps sp f fd) (hr : Room k X.A) (ha : PA X (e :: es) t) (hg : Gl X x := by rfl)
    (hdb : (x == ("__debug__" : Str)) = false := by decide) (he : starEach (e :: es) X.env = (false, eval e X.env) :: starEach es X.env := by rfl) (hpl : (backTo pos (starEach es X.env)).any (·.1) = false := by rfl) :
    PE X (.Call (.Name x p) (e :: es) [] pos) (tCall sp [] E0 t) := pe_call G.ok hr hg G.at_ G.kp G.bd .nil pass0 ha hdb he hpl
theorem pe_num {X : Cx} {x : Str} {i : Int} {t} {pos : Pos} (hm : X.mg x = some (.int i t)) (hg : Gl X x := by rfl) (hd : (x == ("__debug__" : Str)) = false := by decide) : PE X (.Name x pos) (tC (.int i)) := pe_glob hg hm ⟨t, rfl⟩ hd
theorem same_upd {H : Hp} {p : Addr} {o : HO} (h : H p = none) : Same H (upd H p o) := fun b x e => by
  rw [upd_ne (ne_of_none e h)]
  exact e
section
variable {P : Program} {w : World} {K : PySem.W.Frag} {mg : Str → Option Value} {base : Heap}
/-! ### is_washing -/
theorem wash_is (w : Nat) : Kzb4.okWash w = (decide (1 ≤ w) && decide (w ≤ 20)) := rfl
theorem wash_in {w : Nat} (h : (1 : Int) ≤ (w : Int)) : Kzb4.okWash w = decide ((w : Int) ≤ 20) := by
  rw [wash_is, decide_eq_true (show 1 ≤ w by omega), Bool.true_and]
  exact decide_eq_decide.mpr (by omega)
theorem wash_out {w : Nat} (h : ¬ (1 : Int) ≤ (w : Int)) : Kzb4.okWash w = false := by
  rw [wash_is, decide_eq_false (show ¬ 1 ≤ w by omega)]
  rfl
theorem wash_le {w : Nat} (h : Kzb4.okWash w = true) : 1 ≤ w ∧ w ≤ 20 := by
  rw [wash_is, Bool.and_eq_true] at h
  exact ⟨of_decide_eq_true h.1, of_decide_eq_true h.2⟩
def sp_is_washing : Sp := fun vs H Q _ => ∃ w : Nat, vs = [.int w] ∧ Q (.bl (Kzb4.okWash w)) H
theorem ok_is_washing {f : Addr} {fd : FuncData} (F : Fun K "is_washing" "is_washing" s_is_washing f fd) {t_MOST_WASHING : _} (c_MOST_WASHING : mg "MOST_WASHING" = some (.int 20 t_MOST_WASHING)) : FnOk P w K mg base CX0 1 f fd ["w"] sp_is_washing := by
  refine F.ok sc_is_washing (fun vs H Q E h => ?_) (fun cdv A outer s H vs Q E hr h => ?_)
  · obtain ⟨w, rfl, _⟩ := h
    rfl
  · obtain ⟨w, rfl, q⟩ := h
    refine ⟨_, pss_one (ps_ret (pe_and (pe_cmpR op_le pe_int (pv 0) (nomark _)) (pe_one (pe_cmpR op_le (pv 0) (pe_num c_MOST_WASHING) (nomark _))))), ?_⟩
    refine ⟨_, rfl, _, _, rfl, rfl, _, rfl, ite2 (fun e => ?_) (fun e => ?_)⟩
    · rw [wash_in (of_decide_eq_true e)] at q
      exact ⟨_, rfl, _, _, rfl, rfl, q⟩
    · rw [wash_out (fun z => e (decide_eq_true z))] at q
      exact q
/-! ### through -/
def sp_through : Sp := fun vs H Q _ => ∃ c : Nat, vs = [.int c] ∧ c ≤ 1000000 ∧ Q (.int ((Kzb4.flow c : Nat) : Int)) H
theorem ok_through {f : Addr} {fd : FuncData} (F : Fun K "through" "through" s_through f fd) {t_THROUGH : _} (c_THROUGH : mg "THROUGH" = some (.int 10000 t_THROUGH)) {t_CLEAN : _} (c_CLEAN : mg "CLEAN" = some (.int 10 t_CLEAN)) : FnOk P w K mg base CX0 1 f fd ["cake"] sp_through := by
  refine F.ok sc_through (fun vs H Q E h => ?_) (fun cdv A outer s H vs Q E hr h => ?_)
  · obtain ⟨c, rfl, _⟩ := h
    rfl
  · obtain ⟨c, rfl, hc, q⟩ := h
    rw [← flow_is c] at q
    exact ⟨_, pss_one (ps_ret (pe_op op_fdiv (pe_num c_THROUGH) (pe_op op_add (pe_num c_CLEAN) (pv 0)))), _, rfl, _, _, rfl, rfl, _, _, rfl, rfl, ⟨by omega, by omega⟩, q⟩
/-! ### through_in -/
def flowsTo (i : Nat) : List Int := ((List.range i).map Kzb4.flow).map fun x : Nat => (x : Int)
theorem flowsTo_succ (i : Nat) : flowsTo (i + 1) = flowsTo i ++ [((Kzb4.flow i : Nat) : Int)] := by
  unfold flowsTo
  rw [List.range_succ, List.map_append, List.map_append]
  rfl
theorem flowsTo_length (i : Nat) : (flowsTo i).length = i := by
  unfold flowsTo
  rw [List.length_map, List.length_map, List.length_range]
theorem flowsTo_sum (i : Nat) : (flowsTo i).sum = ((Kzb4.through i : Nat) : Int) := sum_is _
def sp_through_in : Sp := fun vs H Q _ => ∃ n : Nat, vs = [.int n] ∧ n ≤ 1000 ∧ ∀ H', Same H H' → Q (.int ((Kzb4.through n : Nat) : Int)) H'
theorem ok_through_in {f : Addr} {fd : FuncData} (F : Fun K "through_in" "through_in" s_through_in f fd) {f_through : Addr} {fd_through : FuncData} (h_through : Has P w K mg base "through" 1 ["cake"] sp_through f_through fd_through) (z_sum : mg "sum" = none) (z_range : mg "range" = none) : FnOk P w K mg base CX0 2 f fd ["n"] sp_through_in := by
  refine F.ok sc_through_in (fun vs H Q E h => ?_) (fun cdv A outer s H vs Q E hr h => ?_)
  · obtain ⟨n, rfl, _⟩ := h
    rfl
  · obtain ⟨n, rfl, hn, q⟩ := h
    have hr1 : Room 1 _ := hr.mono (by decide)
    refine ⟨_, pss_one (ps_ret (pe_callB (cr_sum rfl) (by rfl) z_sum (by decide +kernel) (pa_cons
      (pe_lc (own := [("cake", 1)]) (g := gName 1) (tt := tYes) (by rfl) sc_through_in.nd (pi_range1 rfl z_range (pa_cons (pv 0) pa_nil)) (blkOk_by (N := ["n", "cake"]) (sc := defScope s_through_in) (by decide +kernel))
        (fun _ _ _ _ _ => pg_name (i := 1) sc_through_in.nd rfl (Or.inl rfl)) (fun _ _ _ _ _ => pts_nil) (fun _ _ _ _ _ => pe_has h_through hr1 (pa_cons (pv 1) pa_nil))) pa_nil))), ?_⟩
    refine ⟨_, rfl, n, rfl, by omega, by omega, fun D hD => lc_range (lo := 0) (n := ((n : Nat) : Int).toNat) (fun i H' => Same H H' ∧ H' D = some (.lst ((flowsTo i).map V.int))) ⟨same_upd hD, upd_same⟩ ?_ ?_⟩
    · rintro i H' hi ⟨sm, hd⟩
      have e0 : (0 : Int) + (i : Int) = (i : Int) := Int.zero_add _
      rw [e0]
      have hi' : i < n := by omega
      refine ⟨rfl, _, rfl, i, rfl, by omega, _, hd, ?_, ?_, ?_⟩
      · rw [List.length_map, flowsTo_length]
        exact small1000 (by omega)
      · intro b o e
        rw [upd_ne (ne_of_none e hD)]
        exact sm b o e
      · rw [upd_same, flowsTo_succ, List.map_append]
        rfl
    · rintro H' ⟨sm, hd⟩
      rw [Int.toNat_natCast] at hd
      refine ⟨D, flowsTo n, rfl, SqL.of hd, ?_⟩
      rw [flowsTo_sum]
      exact q H' sm
/-! ### brings_more -/
theorem better_is (w a b : Nat) : decide (((Kzb4.through b : Nat) : Int) * ((a : Int) + (w : Int)) < ((Kzb4.through a : Nat) : Int) * ((b : Int) + (w : Int))) = Kzb4.better w a b := by
  unfold Kzb4.better
  refine decide_eq_decide.mpr ?_
  rw [← Int.natCast_add, ← Int.natCast_add, ← Int.natCast_mul, ← Int.natCast_mul]
  exact Int.ofNat_lt
def sp_brings_more : Sp := fun vs H Q _ => ∃ n o w : Nat, vs = [.int n, .int o, .int w] ∧ n ≤ 1000 ∧ o ≤ 1000 ∧ w ≤ 1000 ∧ ∀ H', Same H H' → Q (.bl (Kzb4.better w n o)) H'
theorem ok_brings_more {f : Addr} {fd : FuncData} (F : Fun K "brings_more" "brings_more" s_brings_more f fd) {f_through_in : Addr} {fd_through_in : FuncData} (h_through_in : Has P w K mg base "through_in" 2 ["n"] sp_through_in f_through_in fd_through_in) : FnOk P w K mg base CX0 3 f fd ["n", "other", "w"] sp_brings_more := by
  refine F.ok sc_brings_more (fun vs H Q E h => ?_) (fun cdv A outer s H vs Q E hr h => ?_)
  · obtain ⟨n, o, w, rfl, _⟩ := h
    rfl
  · obtain ⟨n, o, w, rfl, hn, ho, hw, q⟩ := h
    have hr2 : Room 2 _ := hr.mono (by decide)
    rw [← better_is] at q
    refine ⟨_, pss_one (ps_ret (pe_cmpR op_gt (pe_op op_mul (pe_has h_through_in hr2 (pa_cons (pv 0) pa_nil)) (pe_op op_add (pv 1) (pv 2))) (pe_op op_mul (pe_has h_through_in hr2 (pa_cons (pv 1) pa_nil)) (pe_op op_add (pv 0) (pv 2))) (nomark _))), ?_⟩
    refine ⟨_, rfl, n, rfl, hn, fun H1 s1 => ⟨_, rfl, _, rfl, _, _, rfl, rfl, _, _, rfl, rfl, .inr ⟨by omega, by omega⟩, _, rfl, o, rfl, ho, fun H2 s2 => ⟨_, rfl, _, rfl, _, _, rfl, rfl, _, _, rfl, rfl, .inr ⟨by omega, by omega⟩, _, _, rfl, rfl, q H2 (s1.trans s2)⟩⟩⟩
/-! ### best_length -/
def sp_best_length : Sp := fun vs H Q _ => ∃ w : Nat, vs = [.int w] ∧ w ≤ 1000 ∧ ∀ H', Same H H' → Q (.int ((cycleOn w 60 : Nat) : Int)) H'
theorem ok_best_length {f : Addr} {fd : FuncData} (F : Fun K "best_length" "best_length" s_best_length f fd) {t_MOST_CYCLE : _} (c_MOST_CYCLE : mg "MOST_CYCLE" = some (.int 60 t_MOST_CYCLE)) {f_brings_more : Addr} {fd_brings_more : FuncData} (h_brings_more : Has P w K mg base "brings_more" 3 ["n", "other", "w"] sp_brings_more f_brings_more fd_brings_more) (z_range : mg "range" = none) : FnOk P w K mg base CX0 4 f fd ["w"] sp_best_length := by
  refine F.ok sc_best_length (fun vs H Q E h => ?_) (fun cdv A outer s H vs Q E hr h => ?_)
  · obtain ⟨w, rfl, _⟩ := h
    rfl
  · obtain ⟨w, rfl, hw, q⟩ := h
    have hr3 : Room 3 _ := hr.mono (by decide)
    refine ⟨_, pss_cons (ps_set (i := 1) sc_best_length.nd rfl (.inl rfl) pe_int)
      (pss_cons (ps_for PassesOwn.never rfl (pi_range2 rfl z_range (pa_cons pe_int (pa_cons (pe_op op_add (pe_num c_MOST_CYCLE) pe_int) pa_nil))) (pg_name (i := 2) sc_best_length.nd rfl (.inl rfl))
        (pss_one (ps_if (pt_val (pe_has h_brings_more hr3 (pa_cons (pv 2) (pa_cons (pv 1) (pa_cons (pv 0) pa_nil)))))
          (pss_one (ps_set (i := 1) sc_best_length.nd rfl (.inl rfl) (pv 2))) pss_nil)))
      (pss_one (ps_ret (pv 1)))), ?_⟩
    refine ⟨_, _, rfl, rfl, 2, 61, rfl, ⟨by decide, by decide, by decide, by decide⟩, for_range (lo := 2) (n := 59) (fun i σ H' => ∃ v : Option V, σ = [some (.int w), some (.int ((cycleOn w (i + 1) : Nat) : Int)), v] ∧ Same H H') ⟨none, ?_, Same.refl H⟩ ?_ ?_⟩
    · rw [cycleOn_one]
      rfl
    · rintro i σ H' hi ⟨v, rfl, sm⟩
      have hb := cycleOn_le w (i + 1)
      have e0 : (2 : Int) + (i : Int) = ((i + 1 + 1 : Nat) : Int) := by omega
      rw [e0]
      refine ⟨_, rfl, _, rfl, _, rfl, i + 1 + 1, cycleOn w (i + 1), w, rfl, by omega, by omega, hw, fun H1 s1 => ⟨_, rfl, ite2 (fun e => ?_) (fun e => ?_)⟩⟩
      · refine ⟨_, rfl, some (.int ((i + 1 + 1 : Nat) : Int)), ?_, sm.trans s1⟩
        rw [cycleOn_succ w (i + 1), if_pos e]
        rfl
      · refine ⟨some (.int ((i + 1 + 1 : Nat) : Int)), ?_, sm.trans s1⟩
        rw [cycleOn_succ w (i + 1), if_neg e]
        rfl
    · rintro σ H' ⟨v, rfl, sm⟩
      exact ⟨_, rfl, q H' sm⟩
/-! ### best_cycle -/
theorem ans_best_cycle (w : Nat) : PyKzb4.best_cycle w = if Kzb4.okWash w = false then [-22] else [((cycleOn w 60 : Nat) : Int), ((Kzb4.through (cycleOn w 60) : Nat) : Int)] := by
  show ((Kzb4.answer (.bestCycle w)).value :: Kzb4Neutral.ints (Kzb4.answer (.bestCycle w)).nums) = _
  unfold Kzb4.answer
  dsimp only
  split <;> rfl
def sp_best_cycle (K : PySem.W.Frag) : Sp := fun vs H Q _ => ∃ w : Nat, vs = [.int w] ∧ ∀ (H' : Hp) (p : Addr), H' p = some (.lst ((PyKzb4.best_cycle w).map V.int)) → Q (.ref p) H'
theorem ok_best_cycle {f : Addr} {fd : FuncData} (F : Fun K "best_cycle" "best_cycle" s_best_cycle f fd) {t_REFUSED : _} (c_REFUSED : mg "REFUSED" = some (.int (-22) t_REFUSED)) {f_is_washing : Addr} {fd_is_washing : FuncData} (h_is_washing : Has P w K mg base "is_washing" 1 ["w"] sp_is_washing f_is_washing fd_is_washing) {f_best_length : Addr} {fd_best_length : FuncData} (h_best_length : Has P w K mg base "best_length" 4 ["w"] sp_best_length f_best_length fd_best_length) {f_through_in : Addr} {fd_through_in : FuncData} (h_through_in : Has P w K mg base "through_in" 2 ["n"] sp_through_in f_through_in fd_through_in) : FnOk P w K mg base CX0 5 f fd ["w"] (sp_best_cycle K) := by
  refine F.ok sc_best_cycle (fun vs H Q E h => ?_) (fun cdv A outer s H vs Q E hr h => ?_)
  · obtain ⟨w, rfl, _⟩ := h
    rfl
  · obtain ⟨w, rfl, q⟩ := h
    rw [ans_best_cycle] at q
    have hr1 : Room 1 _ := hr.mono (by decide)
    have hr2 : Room 2 _ := hr.mono (by decide)
    have hr4 : Room 4 _ := hr.mono (by decide)
    refine ⟨_, pss_cons (ps_if (pt_not (pt_val (pe_has h_is_washing hr1 (pa_cons (pv 0) pa_nil)))) (pss_one (ps_ret (pe_lst (pa_cons (pe_num c_REFUSED) pa_nil)))) pss_nil)
      (pss_cons (ps_set (i := 1) sc_best_cycle.nd rfl (.inl rfl) (pe_has h_best_length hr4 (pa_cons (pv 0) pa_nil)))
      (pss_one (ps_ret (pe_lst (pa_cons (pv 1) (pa_cons (pe_has h_through_in hr2 (pa_cons (pv 1) pa_nil)) pa_nil)))))), ?_⟩
    refine ⟨_, rfl, w, rfl, _, rfl, ite2 (fun e => ?_) (fun e => ?_)⟩
    · rw [Bool.not_eq_true'] at e
      rw [if_pos e] at q
      exact ⟨(by show 1 ≤ sizeLine; decide), fun p hp => q _ p upd_same⟩
    · have e1 : Kzb4.okWash w = true := by
        cases z : Kzb4.okWash w with
        | true => rfl
        | false => exact absurd (by rw [z]; rfl) e
      rw [if_neg (by rw [e1]; decide)] at q
      have hl := wash_le e1
      have hb := cycleOn_le w 60
      exact ⟨_, rfl, w, rfl, by omega, fun H1 s1 => ⟨_, rfl, _, rfl, cycleOn w 60, rfl, by omega, fun H2 s2 => ⟨(by show 2 ≤ sizeLine; decide), fun p hp => q _ p upd_same⟩⟩⟩
end
/-! ### what the top has written -/
theorem all_mk {P : Program} {w : World} {K : PySem.W.Frag} {h : Heap} {mg : Str → Option Value} {fa f1 f2 f3 f4 f5 f6 : Addr} (X : K.In h) (G : h.Ns mainGlobals mg) (hfa : mg "best_cycle" = some (.ref fa))
    {od1 an1 : Option Addr} {sl1 : Array (Option Value)} {oc1 kV1 dc1 pm1 cd1 ct1 : Value} {od2 an2 : Option Addr} {sl2 : Array (Option Value)} {oc2 kV2 dc2 pm2 cd2 ct2 : Value} {od3 an3 : Option Addr} {sl3 : Array (Option Value)} {oc3 kV3 dc3 pm3 cd3 ct3 : Value} {od4 an4 : Option Addr} {sl4 : Array (Option Value)} {oc4 kV4 dc4 pm4 cd4 ct4 : Value} {od5 an5 : Option Addr} {sl5 : Array (Option Value)} {oc5 kV5 dc5 pm5 cd5 ct5 : Value} {od6 an6 : Option Addr} {sl6 : Array (Option Value)} {oc6 kV6 dc6 pm6 cd6 ct6 : Value} {t_CLEAN : _} {t_MOST_CYCLE : _} {t_MOST_WASHING : _} {t_REFUSED : _} {t_THROUGH : _}
    (a1 : PySem.W.nsIn K mainGlobals "is_washing" = some (some (.ref f1)))
    (l1 : K.lookup f1 = some ⟨oc1, od1, .func (PySem.W.fnOf "is_washing" "is_washing" (defArgs s_is_washing) (defBody s_is_washing) (defScope s_is_washing) .none kV1 dc1 pm1 an1 cd1 ct1), sl1⟩)
    (c1 : PySem.W.codeIn K cd1 "is_washing" = true)
    (k1 : PySem.W.keepIn K (.ref f1) = true)
    (a2 : PySem.W.nsIn K mainGlobals "through" = some (some (.ref f2)))
    (l2 : K.lookup f2 = some ⟨oc2, od2, .func (PySem.W.fnOf "through" "through" (defArgs s_through) (defBody s_through) (defScope s_through) .none kV2 dc2 pm2 an2 cd2 ct2), sl2⟩)
    (c2 : PySem.W.codeIn K cd2 "through" = true)
    (k2 : PySem.W.keepIn K (.ref f2) = true)
    (a3 : PySem.W.nsIn K mainGlobals "through_in" = some (some (.ref f3)))
    (l3 : K.lookup f3 = some ⟨oc3, od3, .func (PySem.W.fnOf "through_in" "through_in" (defArgs s_through_in) (defBody s_through_in) (defScope s_through_in) .none kV3 dc3 pm3 an3 cd3 ct3), sl3⟩)
    (c3 : PySem.W.codeIn K cd3 "through_in" = true)
    (k3 : PySem.W.keepIn K (.ref f3) = true)
    (a4 : PySem.W.nsIn K mainGlobals "brings_more" = some (some (.ref f4)))
    (l4 : K.lookup f4 = some ⟨oc4, od4, .func (PySem.W.fnOf "brings_more" "brings_more" (defArgs s_brings_more) (defBody s_brings_more) (defScope s_brings_more) .none kV4 dc4 pm4 an4 cd4 ct4), sl4⟩)
    (c4 : PySem.W.codeIn K cd4 "brings_more" = true)
    (k4 : PySem.W.keepIn K (.ref f4) = true)
    (a5 : PySem.W.nsIn K mainGlobals "best_length" = some (some (.ref f5)))
    (l5 : K.lookup f5 = some ⟨oc5, od5, .func (PySem.W.fnOf "best_length" "best_length" (defArgs s_best_length) (defBody s_best_length) (defScope s_best_length) .none kV5 dc5 pm5 an5 cd5 ct5), sl5⟩)
    (c5 : PySem.W.codeIn K cd5 "best_length" = true)
    (k5 : PySem.W.keepIn K (.ref f5) = true)
    (a6 : PySem.W.nsIn K mainGlobals "best_cycle" = some (some (.ref f6)))
    (l6 : K.lookup f6 = some ⟨oc6, od6, .func (PySem.W.fnOf "best_cycle" "best_cycle" (defArgs s_best_cycle) (defBody s_best_cycle) (defScope s_best_cycle) .none kV6 dc6 pm6 an6 cd6 ct6), sl6⟩)
    (c6 : PySem.W.codeIn K cd6 "best_cycle" = true)
    (k6 : PySem.W.keepIn K (.ref f6) = true)
    (g_CLEAN : PySem.W.nsIn K mainGlobals "CLEAN" = some (some (.int 10 t_CLEAN)))
    (g_MOST_CYCLE : PySem.W.nsIn K mainGlobals "MOST_CYCLE" = some (some (.int 60 t_MOST_CYCLE)))
    (g_MOST_WASHING : PySem.W.nsIn K mainGlobals "MOST_WASHING" = some (some (.int 20 t_MOST_WASHING)))
    (g_REFUSED : PySem.W.nsIn K mainGlobals "REFUSED" = some (some (.int (-22) t_REFUSED)))
    (g_THROUGH : PySem.W.nsIn K mainGlobals "THROUGH" = some (some (.int 10000 t_THROUGH)))
    (n_range : PySem.W.nsIn K mainGlobals "range" = some none)
    (n_sum : PySem.W.nsIn K mainGlobals "sum" = some none)
    : ∃ fd : FuncData, (∀ (s : Shared) (us : List Value), us.length = (["w"] : List Str).length → BindsTo s fd ⟨us, []⟩ ((["w"] : List Str).zip us)) ∧ ∀ base : Heap, K.In base → base.Ns mainGlobals mg → FnOk P w K mg base CX0 5 fa fd ["w"] (sp_best_cycle K) := by
  have e := hfa.symm.trans (PySem.W.mg_of X G a6)
  cases e
  have F1 := fun_mk (st := s_is_washing) l1 c1 k1
  have b1 := F1.binds (ps := ["w"]) fun _ _ _ _ _ _ us hl => match us, hl with | [_], _ => rfl
  have F2 := fun_mk (st := s_through) l2 c2 k2
  have b2 := F2.binds (ps := ["cake"]) fun _ _ _ _ _ _ us hl => match us, hl with | [_], _ => rfl
  have F3 := fun_mk (st := s_through_in) l3 c3 k3
  have b3 := F3.binds (ps := ["n"]) fun _ _ _ _ _ _ us hl => match us, hl with | [_], _ => rfl
  have F4 := fun_mk (st := s_brings_more) l4 c4 k4
  have b4 := F4.binds (ps := ["n", "other", "w"]) fun _ _ _ _ _ _ us hl => match us, hl with | [_, _, _], _ => rfl
  have F5 := fun_mk (st := s_best_length) l5 c5 k5
  have b5 := F5.binds (ps := ["w"]) fun _ _ _ _ _ _ us hl => match us, hl with | [_], _ => rfl
  have F6 := fun_mk (st := s_best_cycle) l6 c6 k6
  have b6 := F6.binds (ps := ["w"]) fun _ _ _ _ _ _ us hl => match us, hl with | [_], _ => rfl
  have c_CLEAN := PySem.W.mg_of X G g_CLEAN
  have c_MOST_CYCLE := PySem.W.mg_of X G g_MOST_CYCLE
  have c_MOST_WASHING := PySem.W.mg_of X G g_MOST_WASHING
  have c_REFUSED := PySem.W.mg_of X G g_REFUSED
  have c_THROUGH := PySem.W.mg_of X G g_THROUGH
  have z_range := PySem.W.mg_none_of X G n_range
  have z_sum := PySem.W.mg_none_of X G n_sum
  refine ⟨PySem.W.fnOf "best_cycle" "best_cycle" (defArgs s_best_cycle) (defBody s_best_cycle) (defScope s_best_cycle) .none kV6 dc6 pm6 an6 cd6 ct6, fun s us hu => match us, hu with | [_], _ => .of_eq rfl, fun base _ _ => ?_⟩
  have h_is_washing : Has P w K mg base "is_washing" 1 ["w"] sp_is_washing f1 _ := ⟨ok_is_washing F1 c_MOST_WASHING, PySem.W.mg_of X G a1, k1, b1⟩
  have h_through : Has P w K mg base "through" 1 ["cake"] sp_through f2 _ := ⟨ok_through F2 c_THROUGH c_CLEAN, PySem.W.mg_of X G a2, k2, b2⟩
  have h_through_in : Has P w K mg base "through_in" 2 ["n"] sp_through_in f3 _ := ⟨ok_through_in F3 h_through z_sum z_range, PySem.W.mg_of X G a3, k3, b3⟩
  have h_brings_more : Has P w K mg base "brings_more" 3 ["n", "other", "w"] sp_brings_more f4 _ := ⟨ok_brings_more F4 h_through_in, PySem.W.mg_of X G a4, k4, b4⟩
  have h_best_length : Has P w K mg base "best_length" 4 ["w"] sp_best_length f5 _ := ⟨ok_best_length F5 c_MOST_CYCLE h_brings_more z_range, PySem.W.mg_of X G a5, k5, b5⟩
  exact ok_best_cycle F6 c_REFUSED h_is_washing h_best_length h_through_in
end Jf
open PySem PySem.W PyProof.Rows
set_option maxRecDepth 100000 in
set_option maxHeartbeats 0 in
theorem PySem.Challenge.cw_juicefilters_s05_best_cycle_holds : PySem.Challenge.rw_juicefilters_s05_best_cycle.Holds := by
  w_on; k_headS; (case hw => exact ⟨[.int 0], by decide +kernel, by decide +kernel⟩)
  k_fillS
  refine L2.walk_specK (r := PySem.Challenge.rw_juicefilters_s05_best_cycle) (k := 5) (CX := L2.CX0) (ps := ["w"]) (sp := fun K => (Jf.sp_best_cycle K)) (by decide +kernel) rfl rfl ⟨rfl, by decide, by decide⟩ (fun w h Y => PySem.W.kIn_of Y) ?F ?S (fun _ _ _ _ z => z)
  case F =>
    intro w mg fa h Y KX G hmg
    refine' Jf.all_mk KX G hmg ?a1 ?l1 ?c1 ?k1 ?a2 ?l2 ?c2 ?k2 ?a3 ?l3 ?c3 ?k3 ?a4 ?l4 ?c4 ?k4 ?a5 ?l5 ?c5 ?k5 ?a6 ?l6 ?c6 ?k6 ?g_CLEAN ?g_MOST_CYCLE ?g_MOST_WASHING ?g_REFUSED ?g_THROUGH ?n_range ?n_sum
    (case a1 => k_is); (case l1 => k_is); (case c1 => k_is); (case k1 => k_is); (case a2 => k_is); (case l2 => k_is)
    (case c2 => k_is); (case k2 => k_is); (case a3 => k_is); (case l3 => k_is); (case c3 => k_is); (case k3 => k_is)
    (case a4 => k_is); (case l4 => k_is); (case c4 => k_is); (case k4 => k_is); (case a5 => k_is); (case l5 => k_is)
    (case c5 => k_is); (case k5 => k_is); (case a6 => k_is); (case l6 => k_is); (case c6 => k_is); (case k6 => k_is)
    (case g_CLEAN => k_is); (case g_MOST_CYCLE => k_is); (case g_MOST_WASHING => k_is); (case g_REFUSED => k_is); (case g_THROUGH => k_is); (case n_range => k_is)
    (case n_sum => k_is)
  case S =>
    intro K H xs a hO hwi hask hx
    obtain ⟨a1, u⟩ := a
    have q : (Codec.inInt 0 4294967295 a1 && true) = true := hwi
    rw [Bool.and_eq_true] at q
    have q1 := (Codec.inInt_iff.mp q.1).1
    obtain ⟨s, rfl⟩ : ∃ s : Nat, a1 = (s : Int) := ⟨a1.toNat, (Int.toNat_of_nonneg q1).symm⟩
    cases hx with
    | cons h1 h2 =>
      cases h2
      cases h1
      exact ⟨s, rfl, fun H' p hp => .lst (L2.SqL.of hp) (L2.dw_ints _)⟩
#print axioms PySem.Challenge.cw_juicefilters_s05_best_cycle_holds
