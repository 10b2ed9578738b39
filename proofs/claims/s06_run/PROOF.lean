import PyProof.Rows.All
import Wide.All
import OpenK.AllK
import Wide.FinOn
import Open.SpecLaws
import KE.OsHead
import KE.OsGo
import HandS.ForSpec
import HandS.Comp
import HandS.Iter
import HandS.Walk
import PySem.Challenge.RW_juicefilters_s06_run
set_option Elab.async false
set_option linter.all false
set_option maxRecDepth 100000
set_option maxHeartbeats 4000000
namespace Jf
open PySem PySem.Spec PyProof.Rows L2
open PySem.W (Codec)
/-! ### the text by places -/
def topS (i : Nat) : Stmt := PySem.Challenge.pw_juicefilters_s06_run.main.body.getD i (.Pass ⟨0, 0, 0, 0⟩)
abbrev s_is_washing : Stmt := topS 7
theorem sc_is_washing : FnScope ["w"] ["w"] (defScope s_is_washing) := ⟨rfl, rfl, rfl, by decide +kernel, rfl, by decide +kernel, by decide +kernel⟩
abbrev s_is_limit : Stmt := topS 8
theorem sc_is_limit : FnScope ["limit"] ["limit"] (defScope s_is_limit) := ⟨rfl, rfl, rfl, by decide +kernel, rfl, by decide +kernel, by decide +kernel⟩
abbrev s_are_ticks : Stmt := topS 9
theorem sc_are_ticks : FnScope ["n"] ["n"] (defScope s_are_ticks) := ⟨rfl, rfl, rfl, by decide +kernel, rfl, by decide +kernel, by decide +kernel⟩
abbrev s_is_filter : Stmt := topS 10
theorem sc_is_filter : FnScope ["cake", "left"] ["cake", "left"] (defScope s_is_filter) := ⟨rfl, rfl, rfl, by decide +kernel, rfl, by decide +kernel, by decide +kernel⟩
abbrev s_is_even : Stmt := topS 11
theorem sc_is_even : FnScope ["many"] ["many"] (defScope s_is_even) := ⟨rfl, rfl, rfl, by decide +kernel, rfl, by decide +kernel, by decide +kernel⟩
abbrev s_are_as_many : Stmt := topS 12
theorem sc_are_as_many : FnScope ["numbers"] ["numbers"] (defScope s_are_as_many) := ⟨rfl, rfl, rfl, by decide +kernel, rfl, by decide +kernel, by decide +kernel⟩
abbrev s_through : Stmt := topS 16
theorem sc_through : FnScope ["cake"] ["cake"] (defScope s_through) := ⟨rfl, rfl, rfl, by decide +kernel, rfl, by decide +kernel, by decide +kernel⟩
abbrev s_stand_of : Stmt := topS 18
theorem sc_stand_of : FnScope ["numbers", "k"] ["numbers"] (defScope s_stand_of) := ⟨rfl, rfl, rfl, by decide +kernel, rfl, by decide +kernel, by decide +kernel⟩
abbrev s_numbers_of : Stmt := topS 19
theorem sc_numbers_of : FnScope ["stand", "found", "cake", "left"] ["stand"] (defScope s_numbers_of) := ⟨rfl, rfl, rfl, by decide +kernel, rfl, by decide +kernel, by decide +kernel⟩
abbrev s_washed_in : Stmt := topS 20
theorem sc_washed_in : FnScope ["stand", "one"] ["stand"] (defScope s_washed_in) := ⟨rfl, rfl, rfl, by decide +kernel, rfl, by decide +kernel, by decide +kernel⟩
abbrev s_are_filters : Stmt := topS 21
theorem sc_are_filters : FnScope ["numbers", "stand", "cake", "left"] ["numbers"] (defScope s_are_filters) := ⟨rfl, rfl, rfl, by decide +kernel, rfl, by decide +kernel, by decide +kernel⟩
abbrev s_through_stand : Stmt := topS 22
theorem sc_through_stand : FnScope ["stand", "cake", "left"] ["stand"] (defScope s_through_stand) := ⟨rfl, rfl, rfl, by decide +kernel, rfl, by decide +kernel, by decide +kernel⟩
abbrev s_aged : Stmt := topS 23
theorem sc_aged : FnScope ["one", "cake", "left"] ["one"] (defScope s_aged) := ⟨rfl, rfl, rfl, by decide +kernel, rfl, by decide +kernel, by decide +kernel⟩
abbrev s_first_full : Stmt := topS 24
theorem sc_first_full : FnScope ["stand", "limit", "k", "one"] ["stand", "limit"] (defScope s_first_full) := ⟨rfl, rfl, rfl, by decide +kernel, rfl, by decide +kernel, by decide +kernel⟩
abbrev s_put_to_washing : Stmt := topS 25
theorem sc_put_to_washing : FnScope ["stand", "w", "limit", "k"] ["stand", "w", "limit"] (defScope s_put_to_washing) := ⟨rfl, rfl, rfl, by decide +kernel, rfl, by decide +kernel, by decide +kernel⟩
abbrev s_ticked : Stmt := topS 26
theorem sc_ticked : FnScope ["stand", "w", "limit", "one"] ["stand", "w", "limit"] (defScope s_ticked) := ⟨rfl, rfl, rfl, by decide +kernel, rfl, by decide +kernel, by decide +kernel⟩
abbrev s_run : Stmt := topS 28
theorem sc_run : FnScope ["w", "limit", "n", "filters", "stand", "total", "tick"] ["w", "limit", "n", "filters"] (defScope s_run) := ⟨rfl, rfl, rfl, by decide +kernel, rfl, by decide +kernel, by decide +kernel⟩
/-! ### the mathematics -/
theorem flow_is (c : Nat) : (10000 : Int) / (10 + (c : Int)) = ((Kzb4.flow c : Nat) : Int) := by
  unfold Kzb4.flow
  rw [Int.natCast_ediv, Int.natCast_add]
  rfl
theorem sum_from : ∀ (l : List Nat) (a : Nat), ((l.foldl (· + ·) a : Nat) : Int) = (a : Int) + (l.map fun x : Nat => (x : Int)).sum
  | [], a => by
    show (a : Int) = (a : Int) + ([] : List Int).sum
    rw [List.sum_nil]
    omega
  | x :: r, a => by
    have ih := sum_from r (a + x)
    show ((r.foldl (· + ·) (a + x) : Nat) : Int) = (a : Int) + ((x : Int) :: r.map fun x : Nat => (x : Int)).sum
    rw [ih, List.sum_cons]
    omega
theorem sum_is (l : List Nat) : (l.map fun x : Nat => (x : Int)).sum = ((Kzb1.sum l : Nat) : Int) := by
  have h := sum_from l 0
  show _ = ((l.foldl (· + ·) 0 : Nat) : Int)
  rw [h]
  omega
theorem filters_length : ∀ ns : List Nat, (Kzb4.filters ns).length = ns.length / 2
  | [] => rfl
  | [_] => by simp [Kzb4.filters]
  | a :: b :: l => by
    show (Kzb4.filters l).length + 1 = (l.length + 1 + 1) / 2
    rw [filters_length l]
    omega
theorem filters_get : ∀ (ns : List Nat) (k x y : Nat), ns[2 * k]? = some x → ns[2 * k + 1]? = some y → (Kzb4.filters ns)[k]? = some ⟨x, y⟩
  | [], k, x, y, h, _ => by simp at h
  | [_], k, x, y, _, h => by simp at h
  | a :: b :: l, 0, x, y, h1, h2 => by
    have e1 : a = x := Option.some.inj h1
    have e2 : b = y := Option.some.inj h2
    rw [← e1, ← e2]
    rfl
  | a :: b :: l, k + 1, x, y, h1, h2 => filters_get l k x y h1 h2
theorem take_snoc {α : Type} {l : List α} {i : Nat} {x : α} (h : l[i]? = some x) : l.take (i + 1) = l.take i ++ [x] := by
  rw [List.take_add_one, h]
  rfl
/-- what runs through those that run, as the program adds it up -/
def throughOf (fs : List Kzb4.Filter) : List Int := (fs.filter fun f => decide (f.wash = 0)).map fun f => ((Kzb4.flow f.cake : Nat) : Int)
theorem throughOf_in {fs : List Kzb4.Filter} {f : Kzb4.Filter} (h : f.wash = 0) : throughOf (fs ++ [f]) = throughOf fs ++ [((Kzb4.flow f.cake : Nat) : Int)] := by
  unfold throughOf
  rw [List.filter_append, List.filter_cons, if_pos (decide_eq_true h), List.map_append]
  rfl
theorem throughOf_out {fs : List Kzb4.Filter} {f : Kzb4.Filter} (h : ¬ f.wash = 0) : throughOf (fs ++ [f]) = throughOf fs := by
  unfold throughOf
  rw [List.filter_append, List.filter_cons, if_neg (fun z => h (of_decide_eq_true z)), List.filter_nil, List.append_nil]
theorem throughOf_length (fs : List Kzb4.Filter) : (throughOf fs).length ≤ fs.length := by
  unfold throughOf
  rw [List.length_map]
  exact List.length_filter_le _ _
theorem throughOf_sums : ∀ fs : List Kzb4.Filter, (throughOf fs).sum = ((fs.map fun f => if f.wash = 0 then Kzb4.flow f.cake else 0).map fun x : Nat => (x : Int)).sum
  | [] => rfl
  | f :: fs => by
    have ih := throughOf_sums fs
    rw [List.map_cons, List.map_cons, List.sum_cons, ← ih]
    by_cases h : f.wash = 0
    · have e : throughOf (f :: fs) = ((Kzb4.flow f.cake : Nat) : Int) :: throughOf fs := by
        unfold throughOf
        rw [List.filter_cons, if_pos (decide_eq_true h)]
        rfl
      rw [e, List.sum_cons, if_pos h]
    · have e : throughOf (f :: fs) = throughOf fs := by
        unfold throughOf
        rw [List.filter_cons, if_neg (fun z => h (of_decide_eq_true z))]
      rw [e, if_neg h]
      show (throughOf fs).sum = 0 + (throughOf fs).sum
      omega
theorem throughOf_sum (fs : List Kzb4.Filter) : (throughOf fs).sum = ((Kzb4.flows fs : Nat) : Int) := (throughOf_sums fs).trans (sum_is _)
/-- filters as numbers -/
def flat (fs : List Kzb4.Filter) : List Int := (fs.flatMap fun f => [f.cake, f.wash]).map fun x : Nat => (x : Int)
theorem flat_snoc (fs : List Kzb4.Filter) (f : Kzb4.Filter) : flat (fs ++ [f]) = flat fs ++ [((f.cake : Nat) : Int)] ++ [((f.wash : Nat) : Int)] := by
  unfold flat
  rw [List.flatMap_append, List.map_append, List.append_assoc]
  rfl
theorem flat_length : ∀ fs : List Kzb4.Filter, (flat fs).length = 2 * fs.length
  | [] => rfl
  | f :: fs => by
    have ih := flat_length fs
    show (flat fs).length + 1 + 1 = 2 * (fs.length + 1)
    omega
/-! a tick keeps how many there are, and adds one of cake at most -/
theorem begin_length (w limit : Nat) (fs : List Kzb4.Filter) : (Kzb4.begin_ w limit fs).length = fs.length := by
  unfold Kzb4.begin_
  split
  · rfl
  · split
    · rfl
    · exact List.length_set
theorem tick_length (w limit : Nat) (fs : List Kzb4.Filter) : (Kzb4.tick w limit fs).length = fs.length := by
  unfold Kzb4.tick
  rw [begin_length, List.length_map]
theorem begin_cake {w limit B : Nat} {fs : List Kzb4.Filter} (h : ∀ f ∈ fs, f.cake ≤ B) : ∀ f ∈ Kzb4.begin_ w limit fs, f.cake ≤ B := by
  unfold Kzb4.begin_
  split
  · exact h
  · split
    · exact h
    · rename_i i _
      intro f hf
      rcases List.mem_or_eq_of_mem_set hf with hf | rfl
      · exact h f hf
      · show (fs.getD i ⟨0, 0⟩).cake ≤ B
        rw [List.getD_eq_getElem?_getD]
        cases e : fs[i]? with
        | none => exact Nat.zero_le _
        | some g => exact h g (List.mem_of_getElem? e)
theorem washed_cake {B : Nat} {f : Kzb4.Filter} (h : f.cake ≤ B) : (Kzb4.washed f).cake ≤ B + 1 := by
  unfold Kzb4.washed
  split
  · exact Nat.succ_le_succ h
  · split
    · exact Nat.zero_le _
    · exact Nat.le_succ_of_le h
theorem tick_cake {w limit B : Nat} {fs : List Kzb4.Filter} (h : ∀ f ∈ fs, f.cake ≤ B) : ∀ f ∈ Kzb4.tick w limit fs, f.cake ≤ B + 1 := by
  unfold Kzb4.tick
  refine begin_cake fun f hf => ?_
  obtain ⟨g, hg, rfl⟩ := List.mem_map.mp hf
  exact washed_cake (h g hg)
/-! who is washed -/
def isWashed (f : Kzb4.Filter) : Bool := f.wash != 0
theorem isWashed_pos (f : Kzb4.Filter) : decide ((0 : Int) < ((f.wash : Nat) : Int)) = isWashed f := by
  unfold isWashed
  cases h : f.wash with
  | zero => rfl
  | succ n =>
    rw [decide_eq_true (by omega)]
    rfl
theorem begin_some {w limit : Nat} {fs : List Kzb4.Filter} (h : fs.filter isWashed ≠ []) : Kzb4.begin_ w limit fs = fs := by
  have e : fs.any (fun f => f.wash != 0) = true := by
    cases z : fs.any (fun f => f.wash != 0) with
    | true => rfl
    | false => exact absurd (List.filter_eq_nil_iff.mpr (List.any_eq_false.mp z)) h
  unfold Kzb4.begin_
  rw [if_pos e]
theorem none_any {fs : List Kzb4.Filter} (h : fs.filter isWashed = []) : fs.any (fun f => f.wash != 0) = false := List.any_eq_false.mpr (List.filter_eq_nil_iff.mp h)
theorem begin_none {w limit : Nat} {fs : List Kzb4.Filter} (h : fs.filter isWashed = []) (hk : (fs.findIdx? fun f => decide (limit ≤ f.cake)) = none) : Kzb4.begin_ w limit fs = fs := by
  unfold Kzb4.begin_
  rw [none_any h, hk]
  rfl
theorem begin_at {w limit k : Nat} {fs : List Kzb4.Filter} {f : Kzb4.Filter} (h : fs.filter isWashed = []) (hk : (fs.findIdx? fun f => decide (limit ≤ f.cake)) = some k) (hf : fs[k]? = some f) :
    Kzb4.begin_ w limit fs = fs.take k ++ [⟨f.cake, w⟩] ++ fs.drop (k + 1) := by
  have hl : k < fs.length := (List.getElem?_eq_some_iff.mp hf).1
  unfold Kzb4.begin_
  rw [none_any h, hk]
  show fs.set k ⟨(fs.getD k ⟨0, 0⟩).cake, w⟩ = _
  rw [List.getD_eq_getElem?_getD, hf, List.set_eq_take_append_cons_drop, if_pos hl, List.append_assoc]
  rfl
/-! what is handed in -/
def asMany (n : Nat) : Bool := decide (n % 2 = 0) && (decide (2 ≤ n) && decide (n ≤ 12))
def okOne (f : Kzb4.Filter) : Bool := decide (f.cake ≤ 1000) && decide (f.wash ≤ 20)
def okRow (ns : List Nat) : Bool := asMany ns.length && ((Kzb4.filters ns).all okOne && decide (((Kzb4.filters ns).filter isWashed).length ≤ 1))
theorem okRow_is (ns : List Nat) : okRow ns = (decide (ns.length % 2 = 0) && Kzb4.okFilters (Kzb4.filters ns)) := by
  unfold okRow asMany Kzb4.okFilters
  rw [filters_length]
  by_cases h : ns.length % 2 = 0
  · rw [decide_eq_true h, Bool.true_and, Bool.true_and, show decide (1 ≤ ns.length / 2) = decide (2 ≤ ns.length) from decide_eq_decide.mpr (by omega), show decide (ns.length / 2 ≤ 6) = decide (ns.length ≤ 12) from decide_eq_decide.mpr (by omega), Bool.and_assoc (decide (2 ≤ ns.length) && decide (ns.length ≤ 12))]
    rfl
  · rw [decide_eq_false h]
    rfl
theorem okRow_no {ns : List Nat} (h : okRow ns = false) : ns.length % 2 = 1 ∨ Kzb4.okFilters (Kzb4.filters ns) = false := by
  by_cases h0 : ns.length % 2 = 0
  · rw [okRow_is, decide_eq_true h0, Bool.true_and] at h
    exact .inr h
  · exact .inl (by omega)
theorem okRow_yes {ns : List Nat} (h : okRow ns = true) : ¬ ns.length % 2 = 1 ∧ Kzb4.okFilters (Kzb4.filters ns) = true := by
  rw [okRow_is, Bool.and_eq_true] at h
  have h0 := of_decide_eq_true h.1
  exact ⟨by omega, h.2⟩
theorem okRow_cake {ns : List Nat} (h : okRow ns = true) : ∀ f ∈ Kzb4.filters ns, f.cake ≤ 1000 := by
  unfold okRow at h
  rw [Bool.and_eq_true, Bool.and_eq_true] at h
  intro f hf
  have q := List.all_eq_true.mp h.2.1 f hf
  unfold okOne at q
  rw [Bool.and_eq_true] at q
  exact of_decide_eq_true q.1
/-! ### a def that may be called by its name -/
structure Has (P : Program) (w : World) (K : PySem.W.Frag) (mg : Str → Option Value) (base : Heap) (x : Str) (k : Nat) (ps : List Str) (sp : Sp) (f : Addr) (fd : FuncData) : Prop where
  ok : FnOk P w K mg base CX0 k f fd ps sp
  at_ : mg x = some (.ref f)
  kp : PySem.W.keepIn K (.ref f) = true
  bd : Binds K fd ps []
theorem pe_has {X : Cx} {x : Str} {k : Nat} {ps : List Str} {sp : Sp} {f : Addr} {fd : FuncData} {e : Expr} {es : List Expr} {t : TA} {p pos : Pos} (G : Has X.prog X.w X.K X.mg X.base x k ps sp f fd) (hr : Room k X.A) (ha : PA X (e :: es) t) (hg : Gl X x := by rfl)
    (hdb : (x == ("__debug__" : Str)) = false := by decide) (he : starEach (e :: es) X.env = (false, eval e X.env) :: starEach es X.env := by rfl) (hpl : (backTo pos (starEach es X.env)).any (·.1) = false := by rfl) :
    PE X (.Call (.Name x p) (e :: es) [] pos) (tCall sp [] E0 t) := pe_call G.ok hr hg G.at_ G.kp G.bd .nil pass0 ha hdb he hpl
theorem pe_num {X : Cx} {x : Str} {i : Int} {t} {pos : Pos} (hm : X.mg x = some (.int i t)) (hg : Gl X x := by rfl) (hd : (x == ("__debug__" : Str)) = false := by decide) : PE X (.Name x pos) (tC (.int i)) := pe_glob hg hm ⟨t, rfl⟩ hd
theorem same_upd {H : Hp} {p : Addr} {o : HO} (h : H p = none) : Same H (upd H p o) := fun b x e => by
  rw [upd_ne (ne_of_none e h)]
  exact e
/-- a filter's tuple -/
def FAt (H : Hp) (a : Addr) (f : Kzb4.Filter) : Prop := H a = some (.tup [.int ((f.cake : Nat) : Int), .int ((f.wash : Nat) : Int)])
inductive FsAt (H : Hp) : List V → List Kzb4.Filter → Prop
  | nil : FsAt H [] []
  | cons {a : Addr} {f : Kzb4.Filter} {vs : List V} {fs : List Kzb4.Filter} : FAt H a f → FsAt H vs fs → FsAt H (.ref a :: vs) (f :: fs)
/-- a stand: a list of filters' tuples -/
def StAt (H : Hp) (l : Addr) (fs : List Kzb4.Filter) : Prop := ∃ vs, H l = some (.lst vs) ∧ FsAt H vs fs
theorem FsAt.same {H H' : Hp} (e : Same H H') {vs : List V} {fs : List Kzb4.Filter} (h : FsAt H vs fs) : FsAt H' vs fs := by
  induction h with
  | nil => exact .nil
  | cons ha _ ih => exact .cons (e _ _ ha) ih
theorem StAt.same {H H' : Hp} (e : Same H H') {l : Addr} {fs : List Kzb4.Filter} (h : StAt H l fs) : StAt H' l fs := by
  obtain ⟨vs, hl, hf⟩ := h
  exact ⟨vs, e _ _ hl, hf.same e⟩
theorem FsAt.len {H : Hp} {vs : List V} {fs : List Kzb4.Filter} (h : FsAt H vs fs) : vs.length = fs.length := by
  induction h with
  | nil => rfl
  | cons _ _ ih => exact congrArg (· + 1) ih
theorem FsAt.get {H : Hp} {vs : List V} {fs : List Kzb4.Filter} (h : FsAt H vs fs) : ∀ {i : Nat} {v : V}, vs[i]? = some v → ∃ a f, v = .ref a ∧ fs[i]? = some f ∧ FAt H a f := by
  induction h with
  | nil => intro i v e; simp at e
  | cons ha _ ih =>
    intro i v e
    match i, e with
    | 0, e => exact ⟨_, _, (Option.some.inj e).symm, rfl, ha⟩
    | i + 1, e => exact ih e
theorem FsAt.at_ {H : Hp} {vs : List V} {fs : List Kzb4.Filter} (h : FsAt H vs fs) : ∀ {i : Nat} {f : Kzb4.Filter}, fs[i]? = some f → ∃ a, vs[i]? = some (.ref a) ∧ FAt H a f := by
  induction h with
  | nil => intro i v e; simp at e
  | cons ha _ ih =>
    intro i f e
    match i, e with
    | 0, e =>
      have e' := Option.some.inj e
      subst e'
      exact ⟨_, rfl, ha⟩
    | i + 1, e => exact ih e
theorem FsAt.app {H : Hp} {vs ws : List V} {fs gs : List Kzb4.Filter} (h : FsAt H vs fs) (g : FsAt H ws gs) : FsAt H (vs ++ ws) (fs ++ gs) := by
  induction h with
  | nil => exact g
  | cons ha _ ih => exact .cons ha ih
theorem FsAt.take {H : Hp} {vs : List V} {fs : List Kzb4.Filter} (h : FsAt H vs fs) : ∀ k : Nat, FsAt H (vs.take k) (fs.take k) := by
  induction h with
  | nil => intro k; rw [List.take_nil, List.take_nil]; exact .nil
  | cons ha _ ih =>
    intro k
    match k with
    | 0 => exact .nil
    | k + 1 => exact .cons ha (ih k)
theorem FsAt.drop {H : Hp} {vs : List V} {fs : List Kzb4.Filter} (h : FsAt H vs fs) : ∀ k : Nat, FsAt H (vs.drop k) (fs.drop k) := by
  induction h with
  | nil => intro k; rw [List.drop_nil, List.drop_nil]; exact .nil
  | cons ha hr ih =>
    intro k
    match k with
    | 0 => exact .cons ha hr
    | k + 1 => exact ih k
theorem FsAt.upd {H : Hp} {D : Addr} {ys zs : List V} (hD : H D = some (.lst ys)) {vs : List V} {fs : List Kzb4.Filter} (h : FsAt H vs fs) : FsAt (L2.upd H D (.lst zs)) vs fs := by
  induction h with
  | nil => exact .nil
  | @cons a f vs fs ha _ ih =>
    refine .cons ?_ ih
    have ne : a ≠ D := fun e => by
      subst e
      unfold FAt at ha
      rw [hD] at ha
      cases ha
    show (L2.upd H D (.lst zs)) a = _
    rw [upd_ne ne]
    exact ha
def dataOf (f : Kzb4.Filter) : PyData := .tuple [.int ((f.cake : Nat) : Int), .int ((f.wash : Nat) : Int)]
theorem FsAt.data {K : PySem.W.Frag} {H : Hp} {vs : List V} {fs : List Kzb4.Filter} (h : FsAt H vs fs) : DpAll K H vs (fs.map dataOf) := by
  induction h with
  | nil => exact .nil
  | cons ha _ ih => exact .cons (.tup (SqT.of ha) (.cons (.int _) (.cons (.int _) .nil))) ih
theorem lay_all : ∀ fs : List Kzb4.Filter, PyData.canLayAll0 (fs.map dataOf) = true ∧ PyData.depthAll (fs.map dataOf) ≤ 1
  | [] => by
    constructor
    · simp [PyData.canLayAll0]
    · simp [PyData.depthAll]
  | f :: fs => by
    obtain ⟨h1, h2⟩ := lay_all fs
    constructor
    · simp [PyData.canLayAll0, PyData.canLay0, dataOf, h1]
    · simp [PyData.depthAll, PyData.depth, dataOf] at h2 ⊢
      omega
theorem shaped_stand (fs : List Kzb4.Filter) : SeqAt.shaped (.list (fs.map dataOf)) = true := by
  obtain ⟨h1, h2⟩ := lay_all fs
  unfold SeqAt.shaped
  have e1 : PyData.canLay0 (.list (fs.map dataOf)) = true := by simp only [PyData.canLay0]; exact h1
  have e2 : PyData.depth (.list (fs.map dataOf)) ≤ 64 := by simp only [PyData.depth]; omega
  rw [e1, decide_eq_true e2]
  rfl
theorem eqv_empty (fs : List Kzb4.Filter) : PyData.eqv (.list (fs.map dataOf)) (.list []) = fs.isEmpty := by
  cases fs with
  | nil => simp [PyData.eqv, PyData.eqvAll]
  | cons f fs => simp [PyData.eqv, PyData.eqvAll]
/-- a list of numbers as it is handed in -/
def rowV (ns : List Nat) : List V := ns.map fun n : Nat => V.int (n : Int)
theorem rowV_length (ns : List Nat) : (rowV ns).length = ns.length := List.length_map _
theorem rowV_get {ns : List Nat} {i x : Nat} (h : ns[i]? = some x) : (rowV ns)[i]? = some (.int (x : Int)) := by
  unfold rowV
  rw [List.getElem?_map, h]
  rfl
theorem small (n : Nat) (h : n ≤ 100000) : n < sizeLine := Nat.lt_of_le_of_lt h (by decide)
theorem ints_nats : ∀ (zs : List Int), (∀ z ∈ zs, 0 ≤ z) → zs = (zs.map Int.toNat).map fun n : Nat => (n : Int)
  | [], _ => rfl
  | z :: zs, h => by
    have h1 := h z List.mem_cons_self
    have ih := ints_nats zs fun y hy => h y (List.mem_cons_of_mem _ hy)
    rw [List.map_cons, List.map_cons, ← ih, Int.toNat_of_nonneg h1]
section
variable {P : Program} {w : World} {K : PySem.W.Frag} {mg : Str → Option Value} {base : Heap}
/-! ### is_washing -/
theorem wash_is (w : Nat) : Kzb4.okWash w = (decide (1 ≤ w) && decide (w ≤ 20)) := rfl
theorem wash_in {w : Nat} (h : (1 : Int) ≤ (w : Int)) : Kzb4.okWash w = decide ((w : Int) ≤ 20) := by
  rw [wash_is, decide_eq_true (show 1 ≤ w by omega), Bool.true_and]
  exact decide_eq_decide.mpr (by omega)
theorem wash_out {w : Nat} (h : ¬ (1 : Int) ≤ (w : Int)) : Kzb4.okWash w = false := by
  rw [wash_is, decide_eq_false (show ¬ 1 ≤ w by omega)]
  rfl
theorem wash_le {w : Nat} (h : Kzb4.okWash w = true) : 1 ≤ w ∧ w ≤ 20 := by
  rw [wash_is, Bool.and_eq_true] at h
  exact ⟨of_decide_eq_true h.1, of_decide_eq_true h.2⟩
def sp_is_washing : Sp := fun vs H Q _ => ∃ w : Nat, vs = [.int w] ∧ Q (.bl (Kzb4.okWash w)) H
theorem ok_is_washing {f : Addr} {fd : FuncData} (F : Fun K "is_washing" "is_washing" s_is_washing f fd) {t_MOST_WASHING : _} (c_MOST_WASHING : mg "MOST_WASHING" = some (.int 20 t_MOST_WASHING)) : FnOk P w K mg base CX0 1 f fd ["w"] sp_is_washing := by
  refine F.ok sc_is_washing (fun vs H Q E h => ?_) (fun cdv A outer s H vs Q E hr h => ?_)
  · obtain ⟨w, rfl, _⟩ := h
    rfl
  · obtain ⟨w, rfl, q⟩ := h
    refine ⟨_, pss_one (ps_ret (pe_and (pe_cmpR op_le pe_int (pv 0) (nomark _)) (pe_one (pe_cmpR op_le (pv 0) (pe_num c_MOST_WASHING) (nomark _))))), ?_⟩
    refine ⟨_, rfl, _, _, rfl, rfl, _, rfl, ite2 (fun e => ?_) (fun e => ?_)⟩
    · rw [wash_in (of_decide_eq_true e)] at q
      exact ⟨_, rfl, _, _, rfl, rfl, q⟩
    · rw [wash_out (fun z => e (decide_eq_true z))] at q
      exact q
/-! ### is_limit -/
def okLimit (n : Nat) : Bool := decide (1 ≤ n) && decide (n ≤ 1000)
theorem limit_in {n : Nat} (h : (1 : Int) ≤ (n : Int)) : okLimit n = decide ((n : Int) ≤ 1000) := by
  unfold okLimit
  rw [decide_eq_true (show 1 ≤ n by omega), Bool.true_and]
  exact decide_eq_decide.mpr (by omega)
theorem limit_out {n : Nat} (h : ¬ (1 : Int) ≤ (n : Int)) : okLimit n = false := by
  unfold okLimit
  rw [decide_eq_false (show ¬ 1 ≤ n by omega)]
  rfl
theorem limit_le {n : Nat} (h : okLimit n = true) : 1 ≤ n ∧ n ≤ 1000 := by
  unfold okLimit at h
  rw [Bool.and_eq_true] at h
  exact ⟨of_decide_eq_true h.1, of_decide_eq_true h.2⟩
theorem limit_no {n : Nat} (h : okLimit n = false) : n < 1 ∨ 1000 < n := by
  by_cases h1 : 1 ≤ n
  · by_cases h2 : n ≤ 1000
    · unfold okLimit at h
      rw [decide_eq_true h1, decide_eq_true h2] at h
      exact Bool.noConfusion h
    · exact .inr (by omega)
  · exact .inl (by omega)
def sp_is_limit : Sp := fun vs H Q _ => ∃ n : Nat, vs = [.int n] ∧ Q (.bl (okLimit n)) H
theorem ok_is_limit {f : Addr} {fd : FuncData} (F : Fun K "is_limit" "is_limit" s_is_limit f fd) {t_MOST_LIMIT : _} (c_MOST_LIMIT : mg "MOST_LIMIT" = some (.int 1000 t_MOST_LIMIT)) : FnOk P w K mg base CX0 1 f fd ["limit"] sp_is_limit := by
  refine F.ok sc_is_limit (fun vs H Q E h => ?_) (fun cdv A outer s H vs Q E hr h => ?_)
  · obtain ⟨w, rfl, _⟩ := h
    rfl
  · obtain ⟨w, rfl, q⟩ := h
    refine ⟨_, pss_one (ps_ret (pe_and (pe_cmpR op_le pe_int (pv 0) (nomark _)) (pe_one (pe_cmpR op_le (pv 0) (pe_num c_MOST_LIMIT) (nomark _))))), ?_⟩
    refine ⟨_, rfl, _, _, rfl, rfl, _, rfl, ite2 (fun e => ?_) (fun e => ?_)⟩
    · rw [limit_in (of_decide_eq_true e)] at q
      exact ⟨_, rfl, _, _, rfl, rfl, q⟩
    · rw [limit_out (fun z => e (decide_eq_true z))] at q
      exact q
/-! ### are_ticks -/
def sp_are_ticks : Sp := fun vs H Q _ => ∃ n : Nat, vs = [.int n] ∧ Q (.bl (decide ((n : Int) ≤ 500))) H
theorem ok_are_ticks {f : Addr} {fd : FuncData} (F : Fun K "are_ticks" "are_ticks" s_are_ticks f fd) {t_MOST_TICKS : _} (c_MOST_TICKS : mg "MOST_TICKS" = some (.int 500 t_MOST_TICKS)) : FnOk P w K mg base CX0 1 f fd ["n"] sp_are_ticks := by
  refine F.ok sc_are_ticks (fun vs H Q E h => ?_) (fun cdv A outer s H vs Q E hr h => ?_)
  · obtain ⟨x, rfl, _⟩ := h
    rfl
  · obtain ⟨x, rfl, q⟩ := h
    exact ⟨_, pss_one (ps_ret (pe_cmpR op_le (pv 0) (pe_num c_MOST_TICKS) (nomark _))), _, rfl, _, _, rfl, rfl, q⟩
/-! ### is_filter -/
theorem one_in {f : Kzb4.Filter} (h : ((f.cake : Nat) : Int) ≤ 1000) : okOne f = decide (((f.wash : Nat) : Int) ≤ 20) := by
  unfold okOne
  rw [decide_eq_true (show f.cake ≤ 1000 by omega), Bool.true_and]
  exact decide_eq_decide.mpr (by omega)
theorem one_out {f : Kzb4.Filter} (h : ¬ ((f.cake : Nat) : Int) ≤ 1000) : okOne f = false := by
  unfold okOne
  rw [decide_eq_false (show ¬ f.cake ≤ 1000 by omega)]
  rfl
def sp_is_filter : Sp := fun vs H Q _ => ∃ f : Kzb4.Filter, vs = [.int ((f.cake : Nat) : Int), .int ((f.wash : Nat) : Int)] ∧ Q (.bl (okOne f)) H
theorem ok_is_filter {f : Addr} {fd : FuncData} (F : Fun K "is_filter" "is_filter" s_is_filter f fd) {t_MOST_CAKE : _} (c_MOST_CAKE : mg "MOST_CAKE" = some (.int 1000 t_MOST_CAKE)) {t_MOST_WASHING : _} (c_MOST_WASHING : mg "MOST_WASHING" = some (.int 20 t_MOST_WASHING)) : FnOk P w K mg base CX0 1 f fd ["cake", "left"] sp_is_filter := by
  refine F.ok sc_is_filter (fun vs H Q E h => ?_) (fun cdv A outer s H vs Q E hr h => ?_)
  · obtain ⟨w, rfl, _⟩ := h
    rfl
  · obtain ⟨w, rfl, q⟩ := h
    refine ⟨_, pss_one (ps_ret (pe_and (pe_cmpR op_le (pv 0) (pe_num c_MOST_CAKE) (nomark _)) (pe_one (pe_cmpR op_le (pv 1) (pe_num c_MOST_WASHING) (nomark _))))), ?_⟩
    refine ⟨_, rfl, _, _, rfl, rfl, _, rfl, ite2 (fun e => ?_) (fun e => ?_)⟩
    · rw [one_in (of_decide_eq_true e)] at q
      exact ⟨_, rfl, _, _, rfl, rfl, q⟩
    · rw [one_out (fun z => e (decide_eq_true z))] at q
      exact q
/-! ### is_even -/
theorem even_is (n : Nat) : decide (V.int (n : Int) = V.int ((n : Int) / 2 * 2)) = decide (n % 2 = 0) := by
  refine decide_eq_decide.mpr ⟨fun h => ?_, fun h => ?_⟩
  · have e := V.int.inj h
    omega
  · exact congrArg V.int (by omega)
def sp_is_even : Sp := fun vs H Q _ => ∃ n : Nat, vs = [.int n] ∧ Q (.bl (decide (n % 2 = 0))) H
theorem ok_is_even {f : Addr} {fd : FuncData} (F : Fun K "is_even" "is_even" s_is_even f fd) : FnOk P w K mg base CX0 1 f fd ["many"] sp_is_even := by
  refine F.ok sc_is_even (fun vs H Q E h => ?_) (fun cdv A outer s H vs Q E hr h => ?_)
  · obtain ⟨n, rfl, _⟩ := h
    rfl
  · obtain ⟨n, rfl, q⟩ := h
    rw [← even_is] at q
    exact ⟨_, pss_one (ps_ret (pe_cmpR op_eq (pv 0) (pe_op op_mul (pe_op op_fdiv (pv 0) pe_int) pe_int) (nomark _))), _, rfl, _, rfl, _, _, rfl, rfl, ⟨by decide, by decide⟩, _, _, rfl, rfl, .inr ⟨by decide, by decide⟩, rfl, q⟩
/-! ### are_as_many -/
def sp_are_as_many (K : PySem.W.Frag) : Sp := fun vs H Q _ => ∃ (a : Addr) (ns : List Nat), vs = [.ref a] ∧ SqL K H a (rowV ns) ∧ Q (.bl (asMany ns.length)) H
theorem ok_are_as_many {f : Addr} {fd : FuncData} (F : Fun K "are_as_many" "are_as_many" s_are_as_many f fd) {t_MOST_FILTERS : _} (c_MOST_FILTERS : mg "MOST_FILTERS" = some (.int 6 t_MOST_FILTERS)) {f_is_even : Addr} {fd_is_even : FuncData} (h_is_even : Has P w K mg base "is_even" 1 ["many"] sp_is_even f_is_even fd_is_even) (z_len : mg "len" = none) : FnOk P w K mg base CX0 2 f fd ["numbers"] (sp_are_as_many K) := by
  refine F.ok sc_are_as_many (fun vs H Q E h => ?_) (fun cdv A outer s H vs Q E hr h => ?_)
  · obtain ⟨a, ns, rfl, _⟩ := h
    rfl
  · obtain ⟨a, ns, rfl, hS, q⟩ := h
    have hr1 : Room 1 _ := hr.mono (by decide)
    have el : ((rowV ns).length : Int) = (ns.length : Int) := by rw [rowV_length]
    refine ⟨_, pss_one (ps_ret (pe_and (pe_has h_is_even hr1 (pa_cons (pe_callB call_len_seq (by rfl) z_len PySem.boot_len (pa_cons (pv 0) pa_nil)) pa_nil))
      (pe_and (pe_cmpR op_le pe_int (pe_callB call_len_seq (by rfl) z_len PySem.boot_len (pa_cons (pv 0) pa_nil)) (nomark _))
      (pe_one (pe_cmpR op_le (pe_callB call_len_seq (by rfl) z_len PySem.boot_len (pa_cons (pv 0) pa_nil)) (pe_op op_mul pe_int (pe_num c_MOST_FILTERS)) (nomark _)))))), ?_⟩
    unfold asMany at q
    refine ⟨_, rfl, a, _, rfl, .inl hS, ns.length, congrArg (fun z => [V.int z]) el, _, rfl, ite2 (fun e => ?_) (fun e => ?_)⟩
    · rw [e, Bool.true_and] at q
      refine ⟨_, rfl, a, _, rfl, .inl hS, _, _, rfl, rfl, _, rfl, ite2 (fun e2 => ?_) (fun e2 => ?_)⟩
      · have h2 := of_decide_eq_true e2
        rw [el] at h2
        rw [decide_eq_true (show 2 ≤ ns.length by omega), Bool.true_and, show decide (ns.length ≤ 12) = decide (((rowV ns).length : Int) ≤ 12) from decide_eq_decide.mpr (by omega)] at q
        exact ⟨_, rfl, a, _, rfl, .inl hS, _, _, rfl, rfl, .inl ⟨by decide, by decide⟩, _, _, rfl, rfl, q⟩
      · have h2 : ¬ (2 : Int) ≤ ((rowV ns).length : Int) := fun z => e2 (decide_eq_true z)
        rw [decide_eq_false (show ¬ 2 ≤ ns.length by omega)] at q
        exact q
    · rw [(Bool.not_eq_true _).mp e] at q
      exact q
/-! ### through -/
def sp_through : Sp := fun vs H Q _ => ∃ c : Nat, vs = [.int c] ∧ c ≤ 1000000 ∧ Q (.int ((Kzb4.flow c : Nat) : Int)) H
theorem ok_through {f : Addr} {fd : FuncData} (F : Fun K "through" "through" s_through f fd) {t_THROUGH : _} (c_THROUGH : mg "THROUGH" = some (.int 10000 t_THROUGH)) {t_CLEAN : _} (c_CLEAN : mg "CLEAN" = some (.int 10 t_CLEAN)) : FnOk P w K mg base CX0 1 f fd ["cake"] sp_through := by
  refine F.ok sc_through (fun vs H Q E h => ?_) (fun cdv A outer s H vs Q E hr h => ?_)
  · obtain ⟨c, rfl, _⟩ := h
    rfl
  · obtain ⟨c, rfl, hc, q⟩ := h
    rw [← flow_is c] at q
    exact ⟨_, pss_one (ps_ret (pe_op op_fdiv (pe_num c_THROUGH) (pe_op op_add (pe_num c_CLEAN) (pv 0)))), _, rfl, _, _, rfl, rfl, _, _, rfl, rfl, ⟨by omega, by omega⟩, q⟩
/-! ### stand_of -/
def sp_stand_of (K : PySem.W.Frag) : Sp := fun vs H Q _ => ∃ (a : Addr) (ns : List Nat), vs = [.ref a] ∧ SqL K H a (rowV ns) ∧ ns.length ≤ 1000 ∧ ∀ (H' : Hp) (l : Addr), Same H H' → StAt H' l (Kzb4.filters ns) → Q (.ref l) H'
theorem ok_stand_of {f : Addr} {fd : FuncData} (F : Fun K "stand_of" "stand_of" s_stand_of f fd) (z_len : mg "len" = none) (z_range : mg "range" = none) : FnOk P w K mg base CX0 1 f fd ["numbers"] (sp_stand_of K) := by
  refine F.ok sc_stand_of (fun vs H Q E h => ?_) (fun cdv A outer s H vs Q E hr h => ?_)
  · obtain ⟨a, ns, rfl, _⟩ := h
    rfl
  · obtain ⟨a, ns, rfl, hS, hlen, q⟩ := h
    refine ⟨_, pss_one (ps_ret (pe_lc (own := [("k", 1)]) (g := gName 1) (tt := tYes)
      (te := tTup (tCons (tOp (rIxL K) (tVar 0) (tOp (rI CMul fun i j => .int (i * j)) (tC (.int 2)) (tVar 1))) (tCons (tOp (rIxL K) (tVar 0) (tOp (rI0 fun i j => .int (i + j)) (tOp (rI CMul fun i j => .int (i * j)) (tC (.int 2)) (tVar 1)) (tC (.int 1)))) tNil)))
      (by rfl) sc_stand_of.nd (pi_range1 rfl z_range (pa_cons (pe_op op_fdiv (pe_callB call_len_seq (by rfl) z_len PySem.boot_len (pa_cons (pv 0) pa_nil)) pe_int) pa_nil)) (blkOk_by (N := ["numbers", "k"]) (sc := defScope s_stand_of) (by decide +kernel))
        (fun _ _ _ _ _ => pg_name (i := 1) sc_stand_of.nd rfl (Or.inl rfl)) (fun _ _ _ _ _ => pts_nil)
        (fun _ _ _ _ _ => pe_tup (pa_cons (pe_ix ix_list (pv 0) (pe_op op_mul pe_int (pv 1)) (fun _ _ => rfl)) (pa_cons (pe_ix ix_list (pv 0) (pe_op op_add (pe_op op_mul pe_int (pv 1)) pe_int) (fun _ _ => rfl)) pa_nil))))), ?_⟩
    have en : (((rowV ns).length : Int) / 2).toNat = ns.length / 2 := by
      rw [rowV_length]
      omega
    have el := rowV_length ns
    refine ⟨_, rfl, a, _, rfl, .inl hS, _, _, rfl, rfl, ⟨by decide, by decide⟩, _, rfl, by omega, by omega, fun D hD => lc_range (lo := 0) (fun i H' => Same H H' ∧ ∃ vs, H' D = some (.lst vs) ∧ FsAt H' vs ((Kzb4.filters ns).take i)) ⟨same_upd hD, [], upd_same, .nil⟩ ?_ ?_⟩
    · rintro i H' hi ⟨sm, vs, hd, hf⟩
      have hi' : i < ns.length / 2 := by
        rw [← en]
        exact hi
      have e0 : (0 : Int) + (i : Int) = (i : Int) := Int.zero_add _
      rw [e0]
      obtain ⟨x, hx⟩ : ∃ x, ns[2 * i]? = some x := ⟨_, List.getElem?_eq_getElem (by omega)⟩
      obtain ⟨y, hy⟩ : ∃ y, ns[2 * i + 1]? = some y := ⟨_, List.getElem?_eq_getElem (by omega)⟩
      have hg := filters_get ns i x y hx hy
      refine ⟨rfl, .ref a, rfl, .int i, rfl, 2, i, rfl, rfl, .inl ⟨by decide, by decide⟩, a, _, _, _, rfl, rfl, sm.seq hS, at_of (j := 2 * i) (by omega) (rowV_get hx),
        .ref a, rfl, .int i, rfl, 2, i, rfl, rfl, .inl ⟨by decide, by decide⟩, _, _, rfl, rfl, a, _, _, _, rfl, rfl, sm.seq hS, at_of (j := 2 * i + 1) (by omega) (rowV_get hy), (by show 2 ≤ sizeLine; decide), fun T hT => ?_⟩
      have nTD : D ≠ T := ne_of_none hd hT
      have sT : Same H' (upd H' T (.tup [.int (x : Int), .int (y : Int)])) := same_upd hT
      have hd2 : (upd H' T (.tup [.int (x : Int), .int (y : Int)])) D = some (.lst vs) := sT _ _ hd
      refine ⟨vs, hd2, ?_, ?_, vs ++ [.ref T], upd_same, ?_⟩
      · rw [hf.len, List.length_take]
        exact small _ (by omega)
      · intro b o e
        rw [upd_ne (ne_of_none e hD)]
        exact sT _ _ (sm b o e)
      · rw [take_snoc hg]
        exact FsAt.app (FsAt.upd hd2 (hf.same sT)) (.cons (by show (upd _ D _) T = _; rw [upd_ne nTD.symm]; exact upd_same) .nil)
    · rintro H' ⟨sm, vs, hd, hf⟩
      rw [en, List.take_of_length_le (by rw [filters_length]; exact Nat.le_refl _)] at hf
      exact q H' D sm ⟨vs, hd, hf⟩
/-! ### numbers_of -/
def sp_numbers_of (K : PySem.W.Frag) : Sp := fun vs H Q _ => ∃ (l : Addr) (fs : List Kzb4.Filter), vs = [.ref l] ∧ StAt H l fs ∧ fs.length ≤ 1000 ∧ ∀ (H' : Hp) (p : Addr), Same H H' → H' p = some (.lst ((flat fs).map V.int)) → Q (.ref p) H'
theorem ok_numbers_of {f : Addr} {fd : FuncData} (F : Fun K "numbers_of" "numbers_of" s_numbers_of f fd) : FnOk P w K mg base CX0 1 f fd ["stand"] (sp_numbers_of K) := by
  refine F.ok sc_numbers_of (fun vs H Q E h => ?_) (fun cdv A outer s H vs Q E hr h => ?_)
  · obtain ⟨l, fs, rfl, _⟩ := h
    rfl
  · obtain ⟨l, fs, rfl, ⟨vs, hl, hf⟩, hlen, q⟩ := h
    refine ⟨_, pss_cons (ps_set (i := 1) sc_numbers_of.nd rfl (.inl rfl) (pe_lst pa_nil))
      (pss_cons (ps_for PassesOwn.never rfl (pi_list (pv 0)) (pg_tup rfl (pgs_cons (pg_name (i := 2) sc_numbers_of.nd rfl (.inl rfl)) (pgs_cons (pg_name (i := 3) sc_numbers_of.nd rfl (.inl rfl)) pgs_nil)))
        (pss_cons (ps_expr (pe_bm PySem.F.plainAttrs_list PySem.F.slot_list_append PySem.F.type_list_append mt_append (pv 1) (pa_cons (pv 2) pa_nil)))
        (pss_one (ps_expr (pe_bm PySem.F.plainAttrs_list PySem.F.slot_list_append PySem.F.type_list_append mt_append (pv 1) (pa_cons (pv 3) pa_nil))))))
      (pss_one (ps_ret (pv 1)))), ?_⟩
    refine ⟨Nat.zero_le _, fun o no => ?_⟩
    have s1 : Same H (upd H o (.lst [])) := same_upd no
    refine ⟨_, rfl, l, rfl, ⟨_, SqL.of (s1 _ _ hl)⟩, for_list (K := K) (a := l) (xs := vs) (fun i σ H' => ∃ v2 v3 : Option V, σ = [some (.ref l), some (.ref o), v2, v3] ∧ Same H H' ∧ H' o = some (.lst ((flat (fs.take i)).map V.int)))
      ⟨none, none, rfl, s1, upd_same⟩ (fun i σ H' _ ⟨_, _, _, s5, _⟩ => SqL.of (s5 _ _ hl)) ?_ ?_⟩
    · rintro i y σ H' hi ⟨v2, v3, rfl, s5, ho⟩
      obtain ⟨a, f, rfl, hfi, ha⟩ := hf.get hi
      have ha' := s5 _ _ ha
      have hfl : (flat (fs.take i)).length ≤ 2000 := by
        rw [flat_length, List.length_take]
        omega
      refine ⟨a, _, rfl, SqT.of ha', rfl, _, _, rfl, _, _, rfl, rfl, ?_⟩
      refine ⟨.ref o, rfl, .inl ⟨rfl, _, SqL.of ho⟩, _, rfl, o, _, _, rfl, rfl, ho, ?_, ?_⟩
      · rw [List.length_map]
        exact small _ (by omega)
      refine ⟨.ref o, rfl, .inl ⟨rfl, _, SqL.of upd_same⟩, _, rfl, o, _, _, rfl, rfl, upd_same, ?_, ?_⟩
      · rw [List.length_append, List.length_map]
        exact small _ (by show _ + 1 ≤ _; omega)
      refine ⟨_, _, rfl, fun b z e => ?_, ?_⟩
      · rw [upd_ne (ne_of_none e no), upd_ne (ne_of_none e no)]
        exact s5 b z e
      · rw [upd_same, take_snoc hfi, flat_snoc, List.map_append, List.map_append]
        rfl
    · rintro σ H' ⟨v2, v3, rfl, s5, ho⟩
      rw [hf.len, List.take_length] at ho
      exact ⟨_, rfl, q H' o s5 ho⟩
/-! ### washed_in -/
def sp_washed_in (K : PySem.W.Frag) : Sp := fun vs H Q _ => ∃ (l : Addr) (fs : List Kzb4.Filter), vs = [.ref l] ∧ StAt H l fs ∧ fs.length ≤ 1000 ∧ ∀ (H' : Hp) (p : Addr), Same H H' → StAt H' p (fs.filter isWashed) → Q (.ref p) H'
theorem ok_washed_in {f : Addr} {fd : FuncData} (F : Fun K "washed_in" "washed_in" s_washed_in f fd) : FnOk P w K mg base CX0 1 f fd ["stand"] (sp_washed_in K) := by
  refine F.ok sc_washed_in (fun vs H Q E h => ?_) (fun cdv A outer s H vs Q E hr h => ?_)
  · obtain ⟨l, fs, rfl, _⟩ := h
    rfl
  · obtain ⟨l, fs, rfl, ⟨vs, hl, hf⟩, hlen, q⟩ := h
    refine ⟨_, pss_one (ps_ret (pe_lc (own := [("one", 1)]) (g := gName 1) (tt := tTest (tOp (rI0 fun i j => .bl (decide (j < i))) (tOp (rIxT K) (tVar 1) (tC (.int 1))) (tC (.int 0)))) (te := tVar 1)
      (by rfl) sc_washed_in.nd (pi_list (pv 0)) (blkOk_by (N := ["stand", "one"]) (sc := defScope s_washed_in) (by decide +kernel))
        (fun _ _ _ _ _ => pg_name (i := 1) sc_washed_in.nd rfl (Or.inl rfl)) (fun _ _ _ _ _ => pts_one (pt_cmpR op_gt (pe_ix ix_tup (pv 1) pe_int (fun _ _ => rfl)) pe_int (nomark _)))
        (fun _ _ _ _ _ => pv 1))), ?_⟩
    refine ⟨_, rfl, l, rfl, ⟨_, SqL.of hl⟩, fun D hD => lc_list (K := K) (a := l) (xs := vs) (fun i H' => Same H H' ∧ ∃ ws, H' D = some (.lst ws) ∧ FsAt H' ws ((fs.take i).filter isWashed)) ⟨same_upd hD, [], upd_same, .nil⟩ (fun i H' _ ⟨s5, _⟩ => SqL.of (s5 _ _ hl)) ?_ ?_⟩
    · rintro i y H' hi ⟨sm, ws, hd, hw⟩
      obtain ⟨a, f, rfl, hfi, ha⟩ := hf.get hi
      have ha' : FAt H' a f := sm _ _ ha
      have et : (fs.take (i + 1)).filter isWashed = (fs.take i).filter isWashed ++ [f].filter isWashed := by rw [take_snoc hfi, List.filter_append]
      refine ⟨rfl, _, rfl, a, _, _, _, rfl, rfl, SqT.of ha', at_of (j := 1) rfl rfl, _, _, rfl, rfl, _, rfl, ite2 (fun e => ?_) (fun e => ?_)⟩
      · rw [isWashed_pos] at e
        rw [List.filter_cons, if_pos e] at et
        refine ⟨_, rfl, ws, hd, ?_, ?_, ws ++ [.ref a], upd_same, ?_⟩
        · rw [hw.len]
          refine small _ (Nat.le_trans (List.length_filter_le _ _) ?_)
          rw [List.length_take]
          omega
        · intro b o e
          rw [upd_ne (ne_of_none e hD)]
          exact sm b o e
        · rw [et]
          exact FsAt.app (FsAt.upd hd hw) (FsAt.upd hd (.cons ha' .nil))
      · rw [isWashed_pos] at e
        rw [List.filter_cons, if_neg e, List.filter_nil, List.append_nil] at et
        refine ⟨sm, ws, hd, ?_⟩
        rw [et]
        exact hw
    · rintro H' ⟨sm, ws, hd, hw⟩
      rw [hf.len, List.take_length] at hw
      exact q H' D sm ⟨ws, hd, hw⟩
/-! ### are_filters -/
theorem all_ones (fs : List Kzb4.Filter) : (fs.map okOne).all id = fs.all okOne := by
  rw [List.all_map]
  rfl
def sp_are_filters (K : PySem.W.Frag) : Sp := fun vs H Q _ => ∃ (a : Addr) (ns : List Nat), vs = [.ref a] ∧ SqL K H a (rowV ns) ∧ ns.length ≤ 1000 ∧ ∀ H' : Hp, Same H H' → Q (.bl (okRow ns)) H'
theorem ok_are_filters {f : Addr} {fd : FuncData} (F : Fun K "are_filters" "are_filters" s_are_filters f fd) {f_are_as_many : Addr} {fd_are_as_many : FuncData} (h_are_as_many : Has P w K mg base "are_as_many" 2 ["numbers"] (sp_are_as_many K) f_are_as_many fd_are_as_many) {f_stand_of : Addr} {fd_stand_of : FuncData} (h_stand_of : Has P w K mg base "stand_of" 1 ["numbers"] (sp_stand_of K) f_stand_of fd_stand_of) {f_is_filter : Addr} {fd_is_filter : FuncData} (h_is_filter : Has P w K mg base "is_filter" 1 ["cake", "left"] sp_is_filter f_is_filter fd_is_filter) {f_washed_in : Addr} {fd_washed_in : FuncData} (h_washed_in : Has P w K mg base "washed_in" 1 ["stand"] (sp_washed_in K) f_washed_in fd_washed_in) (z_all : mg "all" = none) (z_len : mg "len" = none) : FnOk P w K mg base CX0 3 f fd ["numbers"] (sp_are_filters K) := by
  refine F.ok sc_are_filters (fun vs H Q E h => ?_) (fun cdv A outer s H vs Q E hr h => ?_)
  · obtain ⟨l, fs, rfl, _⟩ := h
    rfl
  · obtain ⟨a, ns, rfl, hS, hlen, q⟩ := h
    have hr1 : Room 1 _ := hr.mono (by decide)
    have hr2 : Room 2 _ := hr.mono (by decide)
    refine ⟨_, pss_cons (ps_if (pt_not (pt_val (pe_has h_are_as_many hr2 (pa_cons (pv 0) pa_nil)))) (pss_one (ps_ret pe_bl)) pss_nil)
      (pss_cons (ps_set (i := 1) sc_are_filters.nd rfl (.inl rfl) (pe_has h_stand_of hr1 (pa_cons (pv 0) pa_nil)))
      (pss_one (ps_ret (pe_and (pe_callB (cr_all rfl) (by rfl) z_all (by decide +kernel) (pa_cons
        (pe_lc (own := [("cake", 2), ("left", 3)]) (g := gTup K 2 (gCons (gName 2) (gCons (gName 3) gNil))) (tt := tYes)
        (by rfl) sc_are_filters.nd (pi_list (pv 1)) (blkOk_by (N := ["numbers", "stand", "cake", "left"]) (sc := defScope s_are_filters) (by decide +kernel))
          (fun _ _ _ _ _ => pg_tup rfl (pgs_cons (pg_name (i := 2) sc_are_filters.nd rfl (Or.inl rfl)) (pgs_cons (pg_name (i := 3) sc_are_filters.nd rfl (Or.inl rfl)) pgs_nil)))
          (fun _ _ _ _ _ => pts_nil)
          (fun _ _ _ _ _ => pe_has h_is_filter hr1 (pa_cons (pv 2) (pa_cons (pv 3) pa_nil)))) pa_nil))
        (pe_one (pe_cmpR op_le (pe_callB call_len_seq (by rfl) z_len PySem.boot_len (pa_cons (pe_has h_washed_in hr1 (pa_cons (pv 1) pa_nil)) pa_nil)) pe_int (nomark _))))))), ?_⟩
    unfold okRow at q
    refine ⟨_, rfl, a, ns, rfl, hS, _, rfl, ite2 (fun e => ?_) (fun e => ?_)⟩
    · rw [Bool.not_eq_true'] at e
      rw [e] at q
      exact q H (Same.refl H)
    · have e1 : asMany ns.length = true := by
        cases z : asMany ns.length with
        | true => rfl
        | false => exact absurd (by rw [z]; rfl) e
      rw [e1, Bool.true_and] at q
      refine ⟨_, rfl, a, ns, rfl, hS, hlen, fun H1 l s1 S1 => ?_⟩
      obtain ⟨vs, hl, hf⟩ := S1
      have hfl : (Kzb4.filters ns).length ≤ 1000 := by
        rw [filters_length]
        omega
      refine ⟨_, rfl, l, rfl, ⟨_, SqL.of hl⟩, fun D hD => lc_list (K := K) (a := l) (xs := vs) (fun i H' => Same H1 H' ∧ H' D = some (.lst ((((Kzb4.filters ns).take i).map okOne).map V.bl))) ⟨same_upd hD, upd_same⟩ (fun i H' _ ⟨s5, _⟩ => SqL.of (s5 _ _ hl)) ?_ ?_⟩
      · rintro i y H' hi ⟨sm, hd⟩
        obtain ⟨b, f, rfl, hfi, ha⟩ := hf.get hi
        have ha' : FAt H' b f := sm _ _ ha
        refine ⟨b, _, rfl, SqT.of ha', rfl, _, _, rfl, _, _, rfl, rfl, rfl, _, rfl, _, rfl, f, rfl, _, hd, ?_, ?_, ?_⟩
        · rw [List.length_map, List.length_map, List.length_take]
          exact small _ (by omega)
        · intro c o e
          rw [upd_ne (ne_of_none e hD)]
          exact sm c o e
        · rw [upd_same, take_snoc hfi, List.map_append, List.map_append]
          rfl
      · rintro H' ⟨sm, hd⟩
        rw [hf.len, List.take_length] at hd
        refine ⟨D, _, rfl, SqL.of hd, _, rfl, ite2 (fun e2 => ?_) (fun e2 => ?_)⟩
        · rw [all_ones] at e2
          rw [e2, Bool.true_and] at q
          refine ⟨_, rfl, l, Kzb4.filters ns, rfl, StAt.same sm ⟨vs, hl, hf⟩, hfl, fun H2 p s2 S2 => ?_⟩
          obtain ⟨ws, hp, hw⟩ := S2
          refine ⟨p, ws, rfl, .inl (SqL.of hp), _, _, rfl, rfl, ?_⟩
          have z := q H2 ((s1.trans sm).trans s2)
          rw [show decide (((Kzb4.filters ns).filter isWashed).length ≤ 1) = decide ((ws.length : Int) ≤ 1) from decide_eq_decide.mpr (by rw [hw.len]; omega)] at z
          exact z
        · rw [all_ones] at e2
          rw [(Bool.not_eq_true _).mp e2] at q
          exact q H' (s1.trans sm)
/-! ### through_stand -/
def sp_through_stand (K : PySem.W.Frag) : Sp := fun vs H Q _ => ∃ (l : Addr) (fs : List Kzb4.Filter), vs = [.ref l] ∧ StAt H l fs ∧ fs.length ≤ 1000 ∧ (∀ f ∈ fs, f.cake ≤ 1000000) ∧ ∀ H' : Hp, Same H H' → Q (.int ((Kzb4.flows fs : Nat) : Int)) H'
theorem ok_through_stand {f : Addr} {fd : FuncData} (F : Fun K "through_stand" "through_stand" s_through_stand f fd) {f_through : Addr} {fd_through : FuncData} (h_through : Has P w K mg base "through" 1 ["cake"] sp_through f_through fd_through) (z_sum : mg "sum" = none) : FnOk P w K mg base CX0 2 f fd ["stand"] (sp_through_stand K) := by
  refine F.ok sc_through_stand (fun vs H Q E h => ?_) (fun cdv A outer s H vs Q E hr h => ?_)
  · obtain ⟨l, fs, rfl, _⟩ := h
    rfl
  · obtain ⟨l, fs, rfl, ⟨vs, hl, hf⟩, hlen, hc, q⟩ := h
    have hr1 : Room 1 _ := hr.mono (by decide)
    refine ⟨_, pss_one (ps_ret (pe_callB (cr_sum rfl) (by rfl) z_sum (by decide +kernel) (pa_cons
      (pe_lc (own := [("cake", 1), ("left", 2)]) (g := gTup K 2 (gCons (gName 1) (gCons (gName 2) gNil))) (tt := tTest (tOp rEq (tVar 2) (tC (.int 0))))
      (by rfl) sc_through_stand.nd (pi_list (pv 0)) (blkOk_by (N := ["stand", "cake", "left"]) (sc := defScope s_through_stand) (by decide +kernel))
        (fun _ _ _ _ _ => pg_tup rfl (pgs_cons (pg_name (i := 1) sc_through_stand.nd rfl (Or.inl rfl)) (pgs_cons (pg_name (i := 2) sc_through_stand.nd rfl (Or.inl rfl)) pgs_nil)))
        (fun _ _ _ _ _ => pts_one (pt_cmpR op_eq (pv 2) pe_int (nomark _)))
        (fun _ _ _ _ _ => pe_has h_through hr1 (pa_cons (pv 1) pa_nil))) pa_nil))), ?_⟩
    refine ⟨_, rfl, l, rfl, ⟨_, SqL.of hl⟩, fun D hD => lc_list (K := K) (a := l) (xs := vs) (fun i H' => Same H H' ∧ H' D = some (.lst ((throughOf (fs.take i)).map V.int))) ⟨same_upd hD, upd_same⟩ (fun i H' _ ⟨s5, _⟩ => SqL.of (s5 _ _ hl)) ?_ ?_⟩
    · rintro i y H' hi ⟨sm, hd⟩
      obtain ⟨a, f, rfl, hfi, ha⟩ := hf.get hi
      have ha' : FAt H' a f := sm _ _ ha
      refine ⟨a, _, rfl, SqT.of ha', rfl, _, _, rfl, _, _, rfl, rfl, rfl, _, rfl, rfl, _, rfl, ite2 (fun e => ?_) (fun e => ?_)⟩
      · have e0 : f.wash = 0 := by
          have z := V.int.inj (of_decide_eq_true e)
          omega
        refine ⟨_, rfl, f.cake, rfl, hc f (List.mem_of_getElem? hfi), _, hd, ?_, ?_, ?_⟩
        · rw [List.length_map]
          refine small _ (Nat.le_trans (throughOf_length _) ?_)
          rw [List.length_take]
          omega
        · intro b o e
          rw [upd_ne (ne_of_none e hD)]
          exact sm b o e
        · rw [upd_same, take_snoc hfi, throughOf_in e0, List.map_append]
          rfl
      · have e0 : ¬ f.wash = 0 := fun z => e (decide_eq_true (congrArg V.int (by omega)))
        refine ⟨sm, ?_⟩
        rw [take_snoc hfi, throughOf_out e0]
        exact hd
    · rintro H' ⟨sm, hd⟩
      rw [hf.len, List.take_length] at hd
      refine ⟨D, throughOf fs, rfl, SqL.of hd, ?_⟩
      rw [throughOf_sum]
      exact q H' sm
/-! ### aged -/
def sp_aged (K : PySem.W.Frag) : Sp := fun vs H Q _ => ∃ (a : Addr) (f : Kzb4.Filter), vs = [.ref a] ∧ FAt H a f ∧ ∀ (H' : Hp) (b : Addr), Same H H' → H b = none → FAt H' b (Kzb4.washed f) → Q (.ref b) H'
theorem ok_aged {f : Addr} {fd : FuncData} (F : Fun K "aged" "aged" s_aged f fd) : FnOk P w K mg base CX0 1 f fd ["one"] (sp_aged K) := by
  refine F.ok sc_aged (fun vs H Q E h => ?_) (fun cdv A outer s H vs Q E hr h => ?_)
  · obtain ⟨l, fs, rfl, _⟩ := h
    rfl
  · obtain ⟨a, f, rfl, ha, q⟩ := h
    refine ⟨_, pss_cons (ps_asg (pv 0) (pg_tup rfl (pgs_cons (pg_name (i := 1) sc_aged.nd rfl (.inl rfl)) (pgs_cons (pg_name (i := 2) sc_aged.nd rfl (.inl rfl)) pgs_nil))))
      (pss_cons (ps_if (pt_cmpR op_eq (pv 2) pe_int (nomark _)) (pss_one (ps_ret (pe_tup (pa_cons (pe_op op_add (pv 1) pe_int) (pa_cons pe_int pa_nil))))) pss_nil)
      (pss_cons (ps_if (pt_cmpR op_eq (pv 2) pe_int (nomark _)) (pss_one (ps_ret (pe_tup (pa_cons pe_int (pa_cons pe_int pa_nil))))) pss_nil)
      (pss_one (ps_ret (pe_tup (pa_cons (pv 1) (pa_cons (pe_op op_sub (pv 2) pe_int) pa_nil))))))), ?_⟩
    refine ⟨_, rfl, a, _, rfl, SqT.of ha, rfl, _, _, rfl, _, _, rfl, rfl, _, rfl, rfl, _, rfl, ite2 (fun e => ?_) (fun e => ?_)⟩
    · have e0 : f.wash = 0 := by
        have z := V.int.inj (of_decide_eq_true e)
        omega
      refine ⟨_, rfl, _, _, rfl, rfl, (by show 2 ≤ sizeLine; decide), fun p hp => q _ p (same_upd hp) hp ?_⟩
      unfold FAt Kzb4.washed
      rw [if_pos e0, upd_same]
      rfl
    · have e0 : ¬ f.wash = 0 := fun z => e (decide_eq_true (congrArg V.int (by omega)))
      refine ⟨_, rfl, rfl, _, rfl, ite2 (fun e2 => ?_) (fun e2 => ?_)⟩
      · have e1 : f.wash = 1 := by
          have z := V.int.inj (of_decide_eq_true e2)
          omega
        refine ⟨(by show 2 ≤ sizeLine; decide), fun p hp => q _ p (same_upd hp) hp ?_⟩
        unfold FAt Kzb4.washed
        rw [if_neg e0, if_pos e1, upd_same]
        rfl
      · have e1 : ¬ f.wash = 1 := fun z => e2 (decide_eq_true (congrArg V.int (by omega)))
        refine ⟨_, rfl, _, rfl, _, _, rfl, rfl, (by show 2 ≤ sizeLine; decide), fun p hp => q _ p (same_upd hp) hp ?_⟩
        unfold FAt Kzb4.washed
        rw [if_neg e0, if_neg e1, upd_same]
        show some (HO.tup [V.int ((f.cake : Nat) : Int), V.int (((f.wash : Nat) : Int) - 1)]) = some (HO.tup [V.int ((f.cake : Nat) : Int), V.int ((f.wash - 1 : Nat) : Int)])
        rw [show (((f.wash : Nat) : Int) - 1) = ((f.wash - 1 : Nat) : Int) by omega]
/-! ### first_full -/
def placeV : Option Nat → V
  | none => .non
  | some k => .int (k : Int)
theorem full_at {limit : Nat} {fs : List Kzb4.Filter} {i : Nat} {f : Kzb4.Filter} (hf : fs[i]? = some f) (h : limit ≤ f.cake) (hb : ∀ g ∈ fs.take i, ¬ limit ≤ g.cake) : (fs.findIdx? fun f => decide (limit ≤ f.cake)) = some i := by
  obtain ⟨hi, e⟩ := List.getElem?_eq_some_iff.mp hf
  refine List.findIdx?_eq_some_iff_getElem.mpr ⟨hi, ?_, fun j hj => ?_⟩
  · rw [e]
    exact decide_eq_true h
  · have hm : fs[j] ∈ fs.take i := List.mem_take_iff_getElem.mpr ⟨j, by omega, rfl⟩
    intro z
    exact hb _ hm (of_decide_eq_true z)
theorem full_none {limit : Nat} {fs : List Kzb4.Filter} (hb : ∀ g ∈ fs, ¬ limit ≤ g.cake) : (fs.findIdx? fun f => decide (limit ≤ f.cake)) = none :=
  List.findIdx?_eq_none_iff.mpr fun x hx => decide_eq_false (hb x hx)
def sp_first_full (K : PySem.W.Frag) : Sp := fun vs H Q _ => ∃ (l : Addr) (fs : List Kzb4.Filter) (limit : Nat), vs = [.ref l, .int limit] ∧ StAt H l fs ∧ fs.length ≤ 1000 ∧ ∀ H' : Hp, Same H H' → Q (placeV (fs.findIdx? fun f => decide (limit ≤ f.cake))) H'
theorem ok_first_full {f : Addr} {fd : FuncData} (F : Fun K "first_full" "first_full" s_first_full f fd) (z_enumerate : mg "enumerate" = none) : FnOk P w K mg base CX0 1 f fd ["stand", "limit"] (sp_first_full K) := by
  refine F.ok sc_first_full (fun vs H Q E h => ?_) (fun cdv A outer s H vs Q E hr h => ?_)
  · obtain ⟨l, fs, limit, rfl, _⟩ := h
    rfl
  · obtain ⟨l, fs, limit, rfl, ⟨vs, hl, hf⟩, hlen, q⟩ := h
    refine ⟨_, pss_cons (ps_for PassesOwn.never rfl (pi_enum (by rfl) z_enumerate (pa_cons (pv 0) pa_nil)) (pg_tup rfl (pgs_cons (pg_name (i := 2) sc_first_full.nd rfl (.inl rfl)) (pgs_cons (pg_name (i := 3) sc_first_full.nd rfl (.inl rfl)) pgs_nil)))
        (pss_one (ps_if (pt_cmpR op_ge (pe_ix ix_tup (pv 3) pe_int (fun _ _ => rfl)) (pv 1) (nomark _)) (pss_one (ps_ret (pv 2))) pss_nil)))
      (pss_one (ps_ret pe_non)), ?_⟩
    refine ⟨_, rfl, l, vs, rfl, SqL.of hl, for_it (walk_enum (K := K) (a := l) (xs := vs)) (fun i σ H' => ∃ v2 v3 : Option V, σ = [some (.ref l), some (.int limit), v2, v3] ∧ Same H H' ∧ ∀ g ∈ fs.take i, ¬ limit ≤ g.cake)
      ⟨none, none, rfl, Same.refl H, fun g hg => by cases hg⟩ (fun i σ H' _ ⟨_, _, _, s5, _⟩ => SqL.of (s5 _ _ hl)) ?_ ?_⟩
    · rintro i y σ H' H2 hi ⟨v2, v3, rfl, s5, hb⟩ ⟨T, x1, x2, rfl, nT, rfl, e1, e2⟩
      cases e1
      obtain ⟨a, f, rfl, hfi, ha⟩ := hf.get e2
      have sT : Same H' (upd H' T (.tup [.int (i : Int), .ref a])) := same_upd nT
      have ha' : FAt (upd H' T (.tup [.int (i : Int), .ref a])) a f := sT _ _ (s5 _ _ ha)
      refine ⟨T, _, rfl, SqT.of upd_same, rfl, _, _, rfl, _, _, rfl, rfl, ?_⟩
      refine ⟨_, rfl, a, _, _, _, rfl, rfl, SqT.of ha', at_of (j := 0) rfl rfl, _, rfl, _, _, rfl, rfl, _, rfl, ite2 (fun e => ?_) (fun e => ?_)⟩
      · have e0 : limit ≤ f.cake := Int.ofNat_le.mp (of_decide_eq_true e)
        have z := q _ (s5.trans sT)
        rw [full_at hfi e0 hb] at z
        exact ⟨_, rfl, z⟩
      · have e0 : ¬ limit ≤ f.cake := fun z => e (decide_eq_true (Int.ofNat_le.mpr z))
        refine ⟨_, _, rfl, s5.trans sT, fun g hg => ?_⟩
        rw [take_snoc hfi] at hg
        rcases List.mem_append.mp hg with hg | hg
        · exact hb g hg
        · rw [List.mem_singleton.mp hg]
          exact e0
    · rintro σ H' ⟨v2, v3, rfl, s5, hb⟩
      rw [hf.len, List.take_length] at hb
      have z := q H' s5
      rw [full_none hb] at z
      exact z
/-! ### put_to_washing -/
theorem cut_to {vs : List V} {k : Nat} (h : k ≤ vs.length) : cutV vs none (some (k : Int)) = vs.take k := by
  unfold cutV
  rw [HT.sIx_nat, HT.sIx_none, List.drop_zero, Nat.sub_zero, Nat.min_eq_left h]
theorem cut_from {vs : List V} {k : Nat} (h : k ≤ vs.length) : cutV vs (some (k : Int)) none = vs.drop k := by
  unfold cutV
  rw [HT.sIx_nat, HT.sIx_none, Nat.min_eq_left h]
  exact List.take_of_length_le (by rw [List.length_drop]; exact Nat.le_refl _)
theorem full_get {limit k : Nat} {fs : List Kzb4.Filter} (h : (fs.findIdx? fun f => decide (limit ≤ f.cake)) = some k) : ∃ f, fs[k]? = some f := by
  obtain ⟨hk, _⟩ := List.findIdx?_eq_some_iff_getElem.mp h
  exact ⟨_, List.getElem?_eq_getElem hk⟩
def sp_put_to_washing (K : PySem.W.Frag) : Sp := fun vs H Q _ => ∃ (l : Addr) (fs : List Kzb4.Filter) (w limit : Nat), vs = [.ref l, .int w, .int limit] ∧ StAt H l fs ∧ fs.length ≤ 1000 ∧ ∀ (H' : Hp) (p : Addr), Same H H' → StAt H' p (Kzb4.begin_ w limit fs) → Q (.ref p) H'
theorem ok_put_to_washing {f : Addr} {fd : FuncData} (F : Fun K "put_to_washing" "put_to_washing" s_put_to_washing f fd) {f_first_full : Addr} {fd_first_full : FuncData} (h_first_full : Has P w K mg base "first_full" 1 ["stand", "limit"] (sp_first_full K) f_first_full fd_first_full) {f_washed_in : Addr} {fd_washed_in : FuncData} (h_washed_in : Has P w K mg base "washed_in" 1 ["stand"] (sp_washed_in K) f_washed_in fd_washed_in) : FnOk P w K mg base CX0 2 f fd ["stand", "w", "limit"] (sp_put_to_washing K) := by
  refine F.ok sc_put_to_washing (fun vs H Q E h => ?_) (fun cdv A outer s H vs Q E hr h => ?_)
  · obtain ⟨l, fs, w, limit, rfl, _⟩ := h
    rfl
  · obtain ⟨l, fs, w, limit, rfl, hS, hlen, q⟩ := h
    have hr1 : Room 1 _ := hr.mono (by decide)
    refine ⟨_, pss_cons (ps_set (i := 3) sc_put_to_washing.nd rfl (.inl rfl) (pe_has h_first_full hr1 (pa_cons (pv 0) (pa_cons (pv 2) pa_nil))))
      (pss_cons (ps_if (PW.pt (pw_or (pt_cmpR (op_neD hr1.units) (pe_has h_washed_in hr1 (pa_cons (pv 0) pa_nil)) (pe_lst pa_nil) (nomark _)) (pw_or1 (pt_cmpR op_isN (pv 3) pe_non (nomark _))))) (pss_one (ps_ret (pv 0))) pss_nil)
      (pss_one (ps_ret (pe_op op_cat (pe_op op_cat (pe_slice sl_list (pv 0) po_none (po_some (pv 3)))
        (pe_lst (pa_cons (pe_tup (pa_cons (pe_ix ix_tup (pe_ix ix_list (pv 0) (pv 3) (fun _ _ => rfl)) pe_int (fun _ _ => rfl)) (pa_cons (pv 1) pa_nil))) pa_nil)))
        (pe_slice sl_list (pv 0) (po_some (pe_op op_add (pv 3) pe_int)) po_none))))), ?_⟩
    refine ⟨_, rfl, _, rfl, l, fs, limit, rfl, hS, hlen, fun H1 s1 => ?_⟩
    have hS1 := StAt.same s1 hS
    refine ⟨_, rfl, l, fs, rfl, hS1, hlen, fun H2 p s2 S2 => ⟨Nat.zero_le _, fun p0 n0 => ?_⟩⟩
    have s3 : Same H2 (upd H2 p0 (.lst [])) := same_upd n0
    have hSw := StAt.same s3 S2
    have hS3 := StAt.same s3 (StAt.same s2 hS1)
    have s03 := (s1.trans s2).trans s3
    obtain ⟨ws, hp, hw⟩ := hSw
    refine ⟨_, _, .lst (SqL.of hp) hw.data, .lst (SqL.of upd_same) .nil, shaped_stand _, shaped_stand [], _, rfl, ite2 (fun e => iteT ?_) (fun e => ?_)⟩
    · rw [eqv_empty, Bool.not_eq_true'] at e
      have ne : fs.filter isWashed ≠ [] := fun z => by
        rw [z] at e
        exact Bool.noConfusion e
      rw [begin_some ne] at q
      exact ⟨_, rfl, q _ l s03 hS3⟩
    · have e1 : fs.filter isWashed = [] := by
        rw [eqv_empty] at e
        cases z : fs.filter isWashed with
        | nil => rfl
        | cons f r => exact absurd (by rw [z]; rfl) e
      refine ⟨_, rfl, rfl, _, rfl, ?_⟩
      cases hk : (fs.findIdx? fun f => decide (limit ≤ f.cake)) with
      | none =>
        rw [begin_none e1 hk] at q
        exact iteT ⟨_, rfl, q _ l s03 hS3⟩
      | some k =>
        refine iteF ?_
        obtain ⟨f, hf⟩ := full_get hk
        rw [begin_at e1 hk hf] at q
        have hkl : k < fs.length := (List.getElem?_eq_some_iff.mp hf).1
        obtain ⟨vs, hl, hv⟩ := hS3
        have hvl := hv.len
        obtain ⟨a, hva, ha⟩ := hv.at_ hf
        -- stand[:k]
        refine ⟨_, rfl, _, rfl, _, rfl, l, vs, rfl, SqL.of hl, fun p1 n1 => ?_⟩
        rw [cut_to (by omega)]
        have s4 := same_upd (o := .lst (vs.take k)) n1
        -- [(stand[k][0], w)]
        refine ⟨_, rfl, _, rfl, l, vs, _, _, rfl, rfl, SqL.of (s4 _ _ hl), at_of (j := k) rfl hva, a, _, _, _, rfl, rfl, SqT.of (s4 _ _ ha), at_of (j := 0) rfl rfl, _, rfl, (by show 2 ≤ sizeLine; decide), fun T nT => ⟨(by show 1 ≤ sizeLine; decide), fun p2 n2 => ?_⟩⟩
        have s5 := same_upd (o := .tup [.int ((f.cake : Nat) : Int), .int (w : Int)]) nT
        have s6 := same_upd (o := .lst [.ref T]) n2
        -- +
        refine ⟨p1, p2, _, _, rfl, rfl, s6 _ _ (s5 _ _ upd_same), upd_same, ?_, fun p3 n3 => ?_⟩
        · rw [List.length_take]
          exact Nat.le_of_lt (small _ (by show _ + 1 ≤ _; omega))
        have s7 := same_upd (o := .lst (vs.take k ++ [.ref T])) n3
        have s47 := ((s4.trans s5).trans s6).trans s7
        -- stand[k + 1:]
        refine ⟨_, rfl, _, rfl, _, _, rfl, rfl, _, rfl, l, vs, rfl, SqL.of (s47 _ _ hl), fun p4 n4 => ?_⟩
        rw [show ((k : Int) + 1) = ((k + 1 : Nat) : Int) from rfl, cut_from (by omega)]
        have s8 := same_upd (o := .lst (vs.drop (k + 1))) n4
        refine ⟨p3, p4, _, _, rfl, rfl, s8 _ _ upd_same, upd_same, ?_, fun p5 n5 => ?_⟩
        · rw [List.length_append, List.length_take, List.length_drop]
          exact Nat.le_of_lt (small _ (by show _ + 1 + _ ≤ _; omega))
        have s9 := same_upd (o := .lst (vs.take k ++ [.ref T] ++ vs.drop (k + 1))) n5
        have s49 := (s47.trans s8).trans s9
        have sT := ((s6.trans s7).trans s8).trans s9
        refine q _ p5 (s03.trans s49) ⟨_, upd_same, FsAt.app (FsAt.app ((hv.take k).same s49) (.cons (sT _ _ upd_same) .nil)) ((hv.drop (k + 1)).same s49)⟩
/-! ### ticked -/
def sp_ticked (K : PySem.W.Frag) : Sp := fun vs H Q _ => ∃ (l : Addr) (fs : List Kzb4.Filter) (w limit : Nat), vs = [.ref l, .int w, .int limit] ∧ StAt H l fs ∧ fs.length ≤ 1000 ∧ ∀ (H' : Hp) (p : Addr), Same H H' → StAt H' p (Kzb4.tick w limit fs) → Q (.ref p) H'
theorem ok_ticked {f : Addr} {fd : FuncData} (F : Fun K "ticked" "ticked" s_ticked f fd) {f_aged : Addr} {fd_aged : FuncData} (h_aged : Has P w K mg base "aged" 1 ["one"] (sp_aged K) f_aged fd_aged) {f_put_to_washing : Addr} {fd_put_to_washing : FuncData} (h_put_to_washing : Has P w K mg base "put_to_washing" 2 ["stand", "w", "limit"] (sp_put_to_washing K) f_put_to_washing fd_put_to_washing) : FnOk P w K mg base CX0 3 f fd ["stand", "w", "limit"] (sp_ticked K) := by
  refine F.ok sc_ticked (fun vs H Q E h => ?_) (fun cdv A outer s H vs Q E hr h => ?_)
  · obtain ⟨l, fs, w, limit, rfl, _⟩ := h
    rfl
  · obtain ⟨l, fs, w, limit, rfl, ⟨vs, hl, hf⟩, hlen, q⟩ := h
    have hr1 : Room 1 _ := hr.mono (by decide)
    have hr2 : Room 2 _ := hr.mono (by decide)
    refine ⟨_, pss_one (ps_ret (pe_has h_put_to_washing hr2 (pa_cons
      (pe_lc (own := [("one", 3)]) (g := gName 3) (tt := tYes)
      (by rfl) sc_ticked.nd (pi_list (pv 0)) (blkOk_by (N := ["stand", "w", "limit", "one"]) (sc := defScope s_ticked) (by decide +kernel))
        (fun _ _ _ _ _ => pg_name (i := 3) sc_ticked.nd rfl (Or.inl rfl)) (fun _ _ _ _ _ => pts_nil)
        (fun _ _ _ _ _ => pe_has h_aged hr1 (pa_cons (pv 3) pa_nil))) (pa_cons (pv 1) (pa_cons (pv 2) pa_nil))))), ?_⟩
    refine ⟨_, rfl, l, rfl, ⟨_, SqL.of hl⟩, fun D hD => lc_list (K := K) (a := l) (xs := vs) (fun i H' => Same H H' ∧ ∃ ws, H' D = some (.lst ws) ∧ FsAt H' ws ((fs.take i).map Kzb4.washed)) ⟨same_upd hD, [], upd_same, .nil⟩ (fun i H' _ ⟨s5, _⟩ => SqL.of (s5 _ _ hl)) ?_ ?_⟩
    · rintro i y H' hi ⟨sm, ws, hd, hw⟩
      obtain ⟨a, f, rfl, hfi, ha⟩ := hf.get hi
      have ha' : FAt H' a f := sm _ _ ha
      refine ⟨rfl, _, rfl, a, f, rfl, ha', fun H2 b s2 nb hb => ?_⟩
      have hd2 := s2 _ _ hd
      refine ⟨ws, hd2, ?_, ?_, ws ++ [.ref b], upd_same, ?_⟩
      · rw [hw.len, List.length_map, List.length_take]
        exact small _ (by omega)
      · intro c o e
        rw [upd_ne (ne_of_none e hD)]
        exact s2 _ _ (sm c o e)
      · rw [take_snoc hfi, List.map_append]
        exact FsAt.app (FsAt.upd hd2 (hw.same s2)) (FsAt.upd hd2 (.cons hb .nil))
    · rintro H' ⟨sm, ws, hd, hw⟩
      rw [hf.len, List.take_length] at hw
      exact ⟨_, rfl, _, rfl, D, fs.map Kzb4.washed, w, limit, rfl, ⟨ws, hd, hw⟩, by rw [List.length_map]; exact hlen, fun H2 p s2 S2 => q H2 p (sm.trans s2) S2⟩
/-! ### run -/
theorem nats_back : ∀ ns : List Nat, Kzb4Neutral.natsOf (ns.map fun n : Nat => (n : Int)) = ns
  | [] => rfl
  | n :: ns => congrArg (n :: ·) (nats_back ns)
theorem ans_run (w limit n : Nat) (ns : List Nat) : PyKzb4.run w limit n (ns.map fun n : Nat => (n : Int)) = if Kzb4.okWash w = false ∨ limit < 1 ∨ 1000 < limit ∨ 500 < n ∨ ns.length % 2 = 1 ∨ Kzb4.okFilters (Kzb4.filters ns) = false then [-22] else (((Kzb4.run w limit n (Kzb4.filters ns)).1 : Nat) : Int) :: flat (Kzb4.run w limit n (Kzb4.filters ns)).2 := by
  show ((Kzb4.answer (.run w limit n (Kzb4Neutral.natsOf (ns.map fun n : Nat => (n : Int))))).value :: Kzb4Neutral.ints (Kzb4.answer (.run w limit n (Kzb4Neutral.natsOf (ns.map fun n : Nat => (n : Int))))).nums) = _
  rw [nats_back]
  unfold Kzb4.answer
  dsimp only
  split <;> rfl
/-- between two ticks: what ran through so far, and the stand now, go on to what is due -/
structure Going (w limit n : Nat) (fs : List Kzb4.Filter) (i : Nat) (total : Nat) (now : List Kzb4.Filter) : Prop where
  sum : total + (Kzb4.run w limit (n - i) now).1 = (Kzb4.run w limit n fs).1
  end_ : (Kzb4.run w limit (n - i) now).2 = (Kzb4.run w limit n fs).2
  len : now.length ≤ 1000
  cake : ∀ f ∈ now, f.cake ≤ 1000 + i
theorem run_step {w limit n i : Nat} (hi : i < n) (now : List Kzb4.Filter) : Kzb4.run w limit (n - i) now = (Kzb4.flows now + (Kzb4.run w limit (n - (i + 1)) (Kzb4.tick w limit now)).1, (Kzb4.run w limit (n - (i + 1)) (Kzb4.tick w limit now)).2) := by
  rw [show n - i = (n - (i + 1)) + 1 by omega]
  rfl
theorem Going.step {w limit n i total : Nat} {fs now : List Kzb4.Filter} (g : Going w limit n fs i total now) (hi : i < n) : Going w limit n fs (i + 1) (total + Kzb4.flows now) (Kzb4.tick w limit now) := by
  have h1 := g.sum
  have h2 := g.end_
  rw [run_step hi] at h1 h2
  refine ⟨?_, h2, ?_, fun f hf => ?_⟩
  · rw [← h1]
    exact Nat.add_assoc _ _ _
  · rw [tick_length]
    exact g.len
  · have z := tick_cake g.cake f hf
    omega
theorem Going.last {w limit n total : Nat} {fs now : List Kzb4.Filter} (g : Going w limit n fs n total now) : total = (Kzb4.run w limit n fs).1 ∧ now = (Kzb4.run w limit n fs).2 := by
  have h1 := g.sum
  have h2 := g.end_
  rw [Nat.sub_self] at h1 h2
  exact ⟨h1, h2⟩
def sp_run (K : PySem.W.Frag) : Sp := fun vs H Q _ => ∃ (w limit n : Nat) (a : Addr) (ns : List Nat), vs = [.int w, .int limit, .int n, .ref a] ∧ SqL K H a (rowV ns) ∧ ns.length ≤ 1000 ∧ ∀ (H' : Hp) (p : Addr), H' p = some (.lst ((PyKzb4.run w limit n (ns.map fun n : Nat => (n : Int))).map V.int)) → Q (.ref p) H'
theorem ok_run {f : Addr} {fd : FuncData} (F : Fun K "run" "run" s_run f fd) {t_REFUSED : _} (c_REFUSED : mg "REFUSED" = some (.int (-22) t_REFUSED)) {f_is_washing : Addr} {fd_is_washing : FuncData} (h_is_washing : Has P w K mg base "is_washing" 1 ["w"] sp_is_washing f_is_washing fd_is_washing) {f_is_limit : Addr} {fd_is_limit : FuncData} (h_is_limit : Has P w K mg base "is_limit" 1 ["limit"] sp_is_limit f_is_limit fd_is_limit) {f_are_ticks : Addr} {fd_are_ticks : FuncData} (h_are_ticks : Has P w K mg base "are_ticks" 1 ["n"] sp_are_ticks f_are_ticks fd_are_ticks) {f_are_filters : Addr} {fd_are_filters : FuncData} (h_are_filters : Has P w K mg base "are_filters" 3 ["numbers"] (sp_are_filters K) f_are_filters fd_are_filters) {f_stand_of : Addr} {fd_stand_of : FuncData} (h_stand_of : Has P w K mg base "stand_of" 1 ["numbers"] (sp_stand_of K) f_stand_of fd_stand_of) {f_through_stand : Addr} {fd_through_stand : FuncData} (h_through_stand : Has P w K mg base "through_stand" 2 ["stand"] (sp_through_stand K) f_through_stand fd_through_stand) {f_ticked : Addr} {fd_ticked : FuncData} (h_ticked : Has P w K mg base "ticked" 3 ["stand", "w", "limit"] (sp_ticked K) f_ticked fd_ticked) {f_numbers_of : Addr} {fd_numbers_of : FuncData} (h_numbers_of : Has P w K mg base "numbers_of" 1 ["stand"] (sp_numbers_of K) f_numbers_of fd_numbers_of) (z_range : mg "range" = none) : FnOk P w K mg base CX0 4 f fd ["w", "limit", "n", "filters"] (sp_run K) := by
  refine F.ok sc_run (fun vs H Q E h => ?_) (fun cdv A outer s H vs Q E hr h => ?_)
  · obtain ⟨w, limit, n, a, ns, rfl, _⟩ := h
    rfl
  · obtain ⟨w, limit, n, a, ns, rfl, hS, hlen, q⟩ := h
    rw [ans_run] at q
    have hr1 : Room 1 _ := hr.mono (by decide)
    have hr2 : Room 2 _ := hr.mono (by decide)
    have hr3 : Room 3 _ := hr.mono (by decide)
    refine ⟨_, pss_cons (ps_if (PW.pt (pw_or (pt_not (pt_val (pe_has h_is_washing hr1 (pa_cons (pv 0) pa_nil)))) (pw_or (pt_not (pt_val (pe_has h_is_limit hr1 (pa_cons (pv 1) pa_nil)))) (pw_or (pt_not (pt_val (pe_has h_are_ticks hr1 (pa_cons (pv 2) pa_nil)))) (pw_or1 (pt_not (pt_val (pe_has h_are_filters hr3 (pa_cons (pv 3) pa_nil)))))))))
        (pss_one (ps_ret (pe_lst (pa_cons (pe_num c_REFUSED) pa_nil)))) pss_nil)
      (pss_cons (ps_set (i := 4) sc_run.nd rfl (.inl rfl) (pe_has h_stand_of hr1 (pa_cons (pv 3) pa_nil)))
      (pss_cons (ps_set (i := 5) sc_run.nd rfl (.inl rfl) pe_int)
      (pss_cons (ps_for PassesOwn.never rfl (pi_range1 rfl z_range (pa_cons (pv 2) pa_nil)) (pg_name (i := 6) sc_run.nd rfl (.inl rfl))
        (pss_cons (ps_set (i := 5) sc_run.nd rfl (.inl rfl) (pe_op op_add (pv 5) (pe_has h_through_stand hr2 (pa_cons (pv 4) pa_nil))))
        (pss_one (ps_set (i := 4) sc_run.nd rfl (.inl rfl) (pe_has h_ticked hr3 (pa_cons (pv 4) (pa_cons (pv 0) (pa_cons (pv 1) pa_nil))))))))
      (pss_one (ps_ret (pe_op op_cat (pe_lst (pa_cons (pv 5) pa_nil)) (pe_has h_numbers_of hr1 (pa_cons (pv 4) pa_nil)))))))), ?_⟩
    refine ⟨_, rfl, w, rfl, _, rfl, ite2 (fun e => iteT ?_) (fun e => ?_)⟩
    · rw [Bool.not_eq_true'] at e
      rw [if_pos (.inl e)] at q
      exact ⟨(by show 1 ≤ sizeLine; decide), fun p hp => q _ p upd_same⟩
    have w1 : Kzb4.okWash w = true := by
      cases z : Kzb4.okWash w with
      | true => rfl
      | false => exact absurd (by rw [z]; rfl) e
    refine ⟨_, rfl, limit, rfl, _, rfl, ite2 (fun e => iteT ?_) (fun e => ?_)⟩
    · rw [Bool.not_eq_true'] at e
      rw [if_pos (.inr (by rcases limit_no e with z | z; exact .inl z; exact .inr (.inl z)))] at q
      exact ⟨(by show 1 ≤ sizeLine; decide), fun p hp => q _ p upd_same⟩
    have l1 : okLimit limit = true := by
      cases z : okLimit limit with
      | true => rfl
      | false => exact absurd (by rw [z]; rfl) e
    have l2 := limit_le l1
    refine ⟨_, rfl, n, rfl, _, rfl, ite2 (fun e => iteT ?_) (fun e => ?_)⟩
    · rw [Bool.not_eq_true'] at e
      have hn := of_decide_eq_false e
      rw [if_pos (.inr (.inr (.inr (.inl (by omega)))))] at q
      exact ⟨(by show 1 ≤ sizeLine; decide), fun p hp => q _ p upd_same⟩
    have n1 : (n : Int) ≤ 500 := by
      by_cases z : (n : Int) ≤ 500
      · exact z
      · exact absurd (by rw [decide_eq_false z]; rfl) e
    refine ⟨_, rfl, a, ns, rfl, hS, hlen, fun H1 s1 => ⟨_, rfl, ite2 (fun e => ?_) (fun e => ?_)⟩⟩
    · rw [Bool.not_eq_true'] at e
      rw [if_pos (.inr (.inr (.inr (.inr (okRow_no e)))))] at q
      exact ⟨(by show 1 ≤ sizeLine; decide), fun p hp => q _ p upd_same⟩
    have r1 : okRow ns = true := by
      cases z : okRow ns with
      | true => rfl
      | false => exact absurd (by rw [z]; rfl) e
    have r2 := okRow_yes r1
    rw [if_neg (by
      rintro (z | z | z | z | z | z)
      · rw [w1] at z
        exact Bool.noConfusion z
      · omega
      · omega
      · omega
      · exact r2.1 z
      · rw [r2.2] at z
        exact Bool.noConfusion z)] at q
    refine ⟨_, rfl, a, ns, rfl, s1.seq hS, hlen, fun H2 l s2 S2 => ?_⟩
    have g0 : Going w limit n (Kzb4.filters ns) 0 0 (Kzb4.filters ns) := by
      refine ⟨Nat.zero_add _, rfl, ?_, okRow_cake r1⟩
      rw [filters_length]
      omega
    refine ⟨_, rfl, n, rfl, by omega, by omega, for_range (lo := 0) (fun i σ H' => ∃ (st : Addr) (total : Nat) (now : List Kzb4.Filter) (v : Option V), σ = [some (.int w), some (.int limit), some (.int n), some (.ref a), some (.ref st), some (.int (total : Int)), v] ∧ StAt H' st now ∧ Going w limit n (Kzb4.filters ns) i total now)
      ⟨l, 0, _, none, rfl, S2, g0⟩ ?_ ?_⟩
    · rintro i σ H' hi ⟨st, total, now, v, rfl, S3, g⟩
      have hi' : i < n := by omega
      refine ⟨_, rfl, _, rfl, st, now, rfl, S3, g.len, fun f hf => ?_, fun H3 s3 => ⟨_, _, rfl, rfl, _, rfl, _, rfl, _, rfl, st, now, w, limit, rfl, StAt.same s3 S3, g.len, fun H4 p s4 S4 => ?_⟩⟩
      · have z := g.cake f hf
        omega
      · exact ⟨p, total + Kzb4.flows now, _, _, rfl, S4, g.step hi'⟩
    · rintro σ H' ⟨st, total, now, v, rfl, S3, g⟩
      rw [Int.toNat_natCast] at g
      obtain ⟨g1, g2⟩ := g.last
      rw [← g1, ← g2] at q
      refine ⟨_, rfl, (by show 1 ≤ sizeLine; decide), fun p hp => ?_⟩
      have s5 := same_upd (o := .lst [.int (total : Int)]) hp
      refine ⟨_, rfl, st, now, rfl, StAt.same s5 S3, g.len, fun H3 p2 s3 hp2 => ?_⟩
      refine ⟨p, p2, _, _, rfl, rfl, s3 _ _ upd_same, hp2, ?_, fun p3 n3 => q _ p3 upd_same⟩
      rw [List.length_map, flat_length]
      have z := g.len
      exact Nat.le_of_lt (small _ (by show 1 + _ ≤ _; omega))
end
/-! ### what the top has written -/
theorem all_mk {P : Program} {w : World} {K : PySem.W.Frag} {h : Heap} {mg : Str → Option Value} {fa f1 f2 f3 f4 f5 f6 f7 f8 f9 f10 f11 f12 f13 f14 f15 f16 f17 : Addr} (X : K.In h) (G : h.Ns mainGlobals mg) (hfa : mg "run" = some (.ref fa))
    {od1 an1 : Option Addr} {sl1 : Array (Option Value)} {oc1 kV1 dc1 pm1 cd1 ct1 : Value} {od2 an2 : Option Addr} {sl2 : Array (Option Value)} {oc2 kV2 dc2 pm2 cd2 ct2 : Value} {od3 an3 : Option Addr} {sl3 : Array (Option Value)} {oc3 kV3 dc3 pm3 cd3 ct3 : Value} {od4 an4 : Option Addr} {sl4 : Array (Option Value)} {oc4 kV4 dc4 pm4 cd4 ct4 : Value} {od5 an5 : Option Addr} {sl5 : Array (Option Value)} {oc5 kV5 dc5 pm5 cd5 ct5 : Value} {od6 an6 : Option Addr} {sl6 : Array (Option Value)} {oc6 kV6 dc6 pm6 cd6 ct6 : Value} {od7 an7 : Option Addr} {sl7 : Array (Option Value)} {oc7 kV7 dc7 pm7 cd7 ct7 : Value} {od8 an8 : Option Addr} {sl8 : Array (Option Value)} {oc8 kV8 dc8 pm8 cd8 ct8 : Value} {od9 an9 : Option Addr} {sl9 : Array (Option Value)} {oc9 kV9 dc9 pm9 cd9 ct9 : Value} {od10 an10 : Option Addr} {sl10 : Array (Option Value)} {oc10 kV10 dc10 pm10 cd10 ct10 : Value} {od11 an11 : Option Addr} {sl11 : Array (Option Value)} {oc11 kV11 dc11 pm11 cd11 ct11 : Value} {od12 an12 : Option Addr} {sl12 : Array (Option Value)} {oc12 kV12 dc12 pm12 cd12 ct12 : Value} {od13 an13 : Option Addr} {sl13 : Array (Option Value)} {oc13 kV13 dc13 pm13 cd13 ct13 : Value} {od14 an14 : Option Addr} {sl14 : Array (Option Value)} {oc14 kV14 dc14 pm14 cd14 ct14 : Value} {od15 an15 : Option Addr} {sl15 : Array (Option Value)} {oc15 kV15 dc15 pm15 cd15 ct15 : Value} {od16 an16 : Option Addr} {sl16 : Array (Option Value)} {oc16 kV16 dc16 pm16 cd16 ct16 : Value} {od17 an17 : Option Addr} {sl17 : Array (Option Value)} {oc17 kV17 dc17 pm17 cd17 ct17 : Value} {t_CLEAN : _} {t_MOST_CAKE : _} {t_MOST_FILTERS : _} {t_MOST_LIMIT : _} {t_MOST_TICKS : _} {t_MOST_WASHING : _} {t_REFUSED : _} {t_THROUGH : _}
    (a1 : PySem.W.nsIn K mainGlobals "is_washing" = some (some (.ref f1)))
    (l1 : K.lookup f1 = some ⟨oc1, od1, .func (PySem.W.fnOf "is_washing" "is_washing" (defArgs s_is_washing) (defBody s_is_washing) (defScope s_is_washing) .none kV1 dc1 pm1 an1 cd1 ct1), sl1⟩)
    (c1 : PySem.W.codeIn K cd1 "is_washing" = true)
    (k1 : PySem.W.keepIn K (.ref f1) = true)
    (a2 : PySem.W.nsIn K mainGlobals "is_limit" = some (some (.ref f2)))
    (l2 : K.lookup f2 = some ⟨oc2, od2, .func (PySem.W.fnOf "is_limit" "is_limit" (defArgs s_is_limit) (defBody s_is_limit) (defScope s_is_limit) .none kV2 dc2 pm2 an2 cd2 ct2), sl2⟩)
    (c2 : PySem.W.codeIn K cd2 "is_limit" = true)
    (k2 : PySem.W.keepIn K (.ref f2) = true)
    (a3 : PySem.W.nsIn K mainGlobals "are_ticks" = some (some (.ref f3)))
    (l3 : K.lookup f3 = some ⟨oc3, od3, .func (PySem.W.fnOf "are_ticks" "are_ticks" (defArgs s_are_ticks) (defBody s_are_ticks) (defScope s_are_ticks) .none kV3 dc3 pm3 an3 cd3 ct3), sl3⟩)
    (c3 : PySem.W.codeIn K cd3 "are_ticks" = true)
    (k3 : PySem.W.keepIn K (.ref f3) = true)
    (a4 : PySem.W.nsIn K mainGlobals "is_filter" = some (some (.ref f4)))
    (l4 : K.lookup f4 = some ⟨oc4, od4, .func (PySem.W.fnOf "is_filter" "is_filter" (defArgs s_is_filter) (defBody s_is_filter) (defScope s_is_filter) .none kV4 dc4 pm4 an4 cd4 ct4), sl4⟩)
    (c4 : PySem.W.codeIn K cd4 "is_filter" = true)
    (k4 : PySem.W.keepIn K (.ref f4) = true)
    (a5 : PySem.W.nsIn K mainGlobals "is_even" = some (some (.ref f5)))
    (l5 : K.lookup f5 = some ⟨oc5, od5, .func (PySem.W.fnOf "is_even" "is_even" (defArgs s_is_even) (defBody s_is_even) (defScope s_is_even) .none kV5 dc5 pm5 an5 cd5 ct5), sl5⟩)
    (c5 : PySem.W.codeIn K cd5 "is_even" = true)
    (k5 : PySem.W.keepIn K (.ref f5) = true)
    (a6 : PySem.W.nsIn K mainGlobals "are_as_many" = some (some (.ref f6)))
    (l6 : K.lookup f6 = some ⟨oc6, od6, .func (PySem.W.fnOf "are_as_many" "are_as_many" (defArgs s_are_as_many) (defBody s_are_as_many) (defScope s_are_as_many) .none kV6 dc6 pm6 an6 cd6 ct6), sl6⟩)
    (c6 : PySem.W.codeIn K cd6 "are_as_many" = true)
    (k6 : PySem.W.keepIn K (.ref f6) = true)
    (a7 : PySem.W.nsIn K mainGlobals "through" = some (some (.ref f7)))
    (l7 : K.lookup f7 = some ⟨oc7, od7, .func (PySem.W.fnOf "through" "through" (defArgs s_through) (defBody s_through) (defScope s_through) .none kV7 dc7 pm7 an7 cd7 ct7), sl7⟩)
    (c7 : PySem.W.codeIn K cd7 "through" = true)
    (k7 : PySem.W.keepIn K (.ref f7) = true)
    (a8 : PySem.W.nsIn K mainGlobals "stand_of" = some (some (.ref f8)))
    (l8 : K.lookup f8 = some ⟨oc8, od8, .func (PySem.W.fnOf "stand_of" "stand_of" (defArgs s_stand_of) (defBody s_stand_of) (defScope s_stand_of) .none kV8 dc8 pm8 an8 cd8 ct8), sl8⟩)
    (c8 : PySem.W.codeIn K cd8 "stand_of" = true)
    (k8 : PySem.W.keepIn K (.ref f8) = true)
    (a9 : PySem.W.nsIn K mainGlobals "numbers_of" = some (some (.ref f9)))
    (l9 : K.lookup f9 = some ⟨oc9, od9, .func (PySem.W.fnOf "numbers_of" "numbers_of" (defArgs s_numbers_of) (defBody s_numbers_of) (defScope s_numbers_of) .none kV9 dc9 pm9 an9 cd9 ct9), sl9⟩)
    (c9 : PySem.W.codeIn K cd9 "numbers_of" = true)
    (k9 : PySem.W.keepIn K (.ref f9) = true)
    (a10 : PySem.W.nsIn K mainGlobals "washed_in" = some (some (.ref f10)))
    (l10 : K.lookup f10 = some ⟨oc10, od10, .func (PySem.W.fnOf "washed_in" "washed_in" (defArgs s_washed_in) (defBody s_washed_in) (defScope s_washed_in) .none kV10 dc10 pm10 an10 cd10 ct10), sl10⟩)
    (c10 : PySem.W.codeIn K cd10 "washed_in" = true)
    (k10 : PySem.W.keepIn K (.ref f10) = true)
    (a11 : PySem.W.nsIn K mainGlobals "are_filters" = some (some (.ref f11)))
    (l11 : K.lookup f11 = some ⟨oc11, od11, .func (PySem.W.fnOf "are_filters" "are_filters" (defArgs s_are_filters) (defBody s_are_filters) (defScope s_are_filters) .none kV11 dc11 pm11 an11 cd11 ct11), sl11⟩)
    (c11 : PySem.W.codeIn K cd11 "are_filters" = true)
    (k11 : PySem.W.keepIn K (.ref f11) = true)
    (a12 : PySem.W.nsIn K mainGlobals "through_stand" = some (some (.ref f12)))
    (l12 : K.lookup f12 = some ⟨oc12, od12, .func (PySem.W.fnOf "through_stand" "through_stand" (defArgs s_through_stand) (defBody s_through_stand) (defScope s_through_stand) .none kV12 dc12 pm12 an12 cd12 ct12), sl12⟩)
    (c12 : PySem.W.codeIn K cd12 "through_stand" = true)
    (k12 : PySem.W.keepIn K (.ref f12) = true)
    (a13 : PySem.W.nsIn K mainGlobals "aged" = some (some (.ref f13)))
    (l13 : K.lookup f13 = some ⟨oc13, od13, .func (PySem.W.fnOf "aged" "aged" (defArgs s_aged) (defBody s_aged) (defScope s_aged) .none kV13 dc13 pm13 an13 cd13 ct13), sl13⟩)
    (c13 : PySem.W.codeIn K cd13 "aged" = true)
    (k13 : PySem.W.keepIn K (.ref f13) = true)
    (a14 : PySem.W.nsIn K mainGlobals "first_full" = some (some (.ref f14)))
    (l14 : K.lookup f14 = some ⟨oc14, od14, .func (PySem.W.fnOf "first_full" "first_full" (defArgs s_first_full) (defBody s_first_full) (defScope s_first_full) .none kV14 dc14 pm14 an14 cd14 ct14), sl14⟩)
    (c14 : PySem.W.codeIn K cd14 "first_full" = true)
    (k14 : PySem.W.keepIn K (.ref f14) = true)
    (a15 : PySem.W.nsIn K mainGlobals "put_to_washing" = some (some (.ref f15)))
    (l15 : K.lookup f15 = some ⟨oc15, od15, .func (PySem.W.fnOf "put_to_washing" "put_to_washing" (defArgs s_put_to_washing) (defBody s_put_to_washing) (defScope s_put_to_washing) .none kV15 dc15 pm15 an15 cd15 ct15), sl15⟩)
    (c15 : PySem.W.codeIn K cd15 "put_to_washing" = true)
    (k15 : PySem.W.keepIn K (.ref f15) = true)
    (a16 : PySem.W.nsIn K mainGlobals "ticked" = some (some (.ref f16)))
    (l16 : K.lookup f16 = some ⟨oc16, od16, .func (PySem.W.fnOf "ticked" "ticked" (defArgs s_ticked) (defBody s_ticked) (defScope s_ticked) .none kV16 dc16 pm16 an16 cd16 ct16), sl16⟩)
    (c16 : PySem.W.codeIn K cd16 "ticked" = true)
    (k16 : PySem.W.keepIn K (.ref f16) = true)
    (a17 : PySem.W.nsIn K mainGlobals "run" = some (some (.ref f17)))
    (l17 : K.lookup f17 = some ⟨oc17, od17, .func (PySem.W.fnOf "run" "run" (defArgs s_run) (defBody s_run) (defScope s_run) .none kV17 dc17 pm17 an17 cd17 ct17), sl17⟩)
    (c17 : PySem.W.codeIn K cd17 "run" = true)
    (k17 : PySem.W.keepIn K (.ref f17) = true)
    (g_CLEAN : PySem.W.nsIn K mainGlobals "CLEAN" = some (some (.int 10 t_CLEAN)))
    (g_MOST_CAKE : PySem.W.nsIn K mainGlobals "MOST_CAKE" = some (some (.int 1000 t_MOST_CAKE)))
    (g_MOST_FILTERS : PySem.W.nsIn K mainGlobals "MOST_FILTERS" = some (some (.int 6 t_MOST_FILTERS)))
    (g_MOST_LIMIT : PySem.W.nsIn K mainGlobals "MOST_LIMIT" = some (some (.int 1000 t_MOST_LIMIT)))
    (g_MOST_TICKS : PySem.W.nsIn K mainGlobals "MOST_TICKS" = some (some (.int 500 t_MOST_TICKS)))
    (g_MOST_WASHING : PySem.W.nsIn K mainGlobals "MOST_WASHING" = some (some (.int 20 t_MOST_WASHING)))
    (g_REFUSED : PySem.W.nsIn K mainGlobals "REFUSED" = some (some (.int (-22) t_REFUSED)))
    (g_THROUGH : PySem.W.nsIn K mainGlobals "THROUGH" = some (some (.int 10000 t_THROUGH)))
    (n_all : PySem.W.nsIn K mainGlobals "all" = some none)
    (n_enumerate : PySem.W.nsIn K mainGlobals "enumerate" = some none)
    (n_len : PySem.W.nsIn K mainGlobals "len" = some none)
    (n_range : PySem.W.nsIn K mainGlobals "range" = some none)
    (n_sum : PySem.W.nsIn K mainGlobals "sum" = some none)
    : ∃ fd : FuncData, (∀ (s : Shared) (us : List Value), us.length = (["w", "limit", "n", "filters"] : List Str).length → BindsTo s fd ⟨us, []⟩ ((["w", "limit", "n", "filters"] : List Str).zip us)) ∧ ∀ base : Heap, K.In base → base.Ns mainGlobals mg → FnOk P w K mg base CX0 4 fa fd ["w", "limit", "n", "filters"] (sp_run K) := by
  have e := hfa.symm.trans (PySem.W.mg_of X G a17)
  cases e
  have F1 := fun_mk (st := s_is_washing) l1 c1 k1
  have b1 := F1.binds (ps := ["w"]) fun _ _ _ _ _ _ us hl => match us, hl with | [_], _ => rfl
  have F2 := fun_mk (st := s_is_limit) l2 c2 k2
  have b2 := F2.binds (ps := ["limit"]) fun _ _ _ _ _ _ us hl => match us, hl with | [_], _ => rfl
  have F3 := fun_mk (st := s_are_ticks) l3 c3 k3
  have b3 := F3.binds (ps := ["n"]) fun _ _ _ _ _ _ us hl => match us, hl with | [_], _ => rfl
  have F4 := fun_mk (st := s_is_filter) l4 c4 k4
  have b4 := F4.binds (ps := ["cake", "left"]) fun _ _ _ _ _ _ us hl => match us, hl with | [_, _], _ => rfl
  have F5 := fun_mk (st := s_is_even) l5 c5 k5
  have b5 := F5.binds (ps := ["many"]) fun _ _ _ _ _ _ us hl => match us, hl with | [_], _ => rfl
  have F6 := fun_mk (st := s_are_as_many) l6 c6 k6
  have b6 := F6.binds (ps := ["numbers"]) fun _ _ _ _ _ _ us hl => match us, hl with | [_], _ => rfl
  have F7 := fun_mk (st := s_through) l7 c7 k7
  have b7 := F7.binds (ps := ["cake"]) fun _ _ _ _ _ _ us hl => match us, hl with | [_], _ => rfl
  have F8 := fun_mk (st := s_stand_of) l8 c8 k8
  have b8 := F8.binds (ps := ["numbers"]) fun _ _ _ _ _ _ us hl => match us, hl with | [_], _ => rfl
  have F9 := fun_mk (st := s_numbers_of) l9 c9 k9
  have b9 := F9.binds (ps := ["stand"]) fun _ _ _ _ _ _ us hl => match us, hl with | [_], _ => rfl
  have F10 := fun_mk (st := s_washed_in) l10 c10 k10
  have b10 := F10.binds (ps := ["stand"]) fun _ _ _ _ _ _ us hl => match us, hl with | [_], _ => rfl
  have F11 := fun_mk (st := s_are_filters) l11 c11 k11
  have b11 := F11.binds (ps := ["numbers"]) fun _ _ _ _ _ _ us hl => match us, hl with | [_], _ => rfl
  have F12 := fun_mk (st := s_through_stand) l12 c12 k12
  have b12 := F12.binds (ps := ["stand"]) fun _ _ _ _ _ _ us hl => match us, hl with | [_], _ => rfl
  have F13 := fun_mk (st := s_aged) l13 c13 k13
  have b13 := F13.binds (ps := ["one"]) fun _ _ _ _ _ _ us hl => match us, hl with | [_], _ => rfl
  have F14 := fun_mk (st := s_first_full) l14 c14 k14
  have b14 := F14.binds (ps := ["stand", "limit"]) fun _ _ _ _ _ _ us hl => match us, hl with | [_, _], _ => rfl
  have F15 := fun_mk (st := s_put_to_washing) l15 c15 k15
  have b15 := F15.binds (ps := ["stand", "w", "limit"]) fun _ _ _ _ _ _ us hl => match us, hl with | [_, _, _], _ => rfl
  have F16 := fun_mk (st := s_ticked) l16 c16 k16
  have b16 := F16.binds (ps := ["stand", "w", "limit"]) fun _ _ _ _ _ _ us hl => match us, hl with | [_, _, _], _ => rfl
  have F17 := fun_mk (st := s_run) l17 c17 k17
  have b17 := F17.binds (ps := ["w", "limit", "n", "filters"]) fun _ _ _ _ _ _ us hl => match us, hl with | [_, _, _, _], _ => rfl
  have c_CLEAN := PySem.W.mg_of X G g_CLEAN
  have c_MOST_CAKE := PySem.W.mg_of X G g_MOST_CAKE
  have c_MOST_FILTERS := PySem.W.mg_of X G g_MOST_FILTERS
  have c_MOST_LIMIT := PySem.W.mg_of X G g_MOST_LIMIT
  have c_MOST_TICKS := PySem.W.mg_of X G g_MOST_TICKS
  have c_MOST_WASHING := PySem.W.mg_of X G g_MOST_WASHING
  have c_REFUSED := PySem.W.mg_of X G g_REFUSED
  have c_THROUGH := PySem.W.mg_of X G g_THROUGH
  have z_all := PySem.W.mg_none_of X G n_all
  have z_enumerate := PySem.W.mg_none_of X G n_enumerate
  have z_len := PySem.W.mg_none_of X G n_len
  have z_range := PySem.W.mg_none_of X G n_range
  have z_sum := PySem.W.mg_none_of X G n_sum
  refine ⟨PySem.W.fnOf "run" "run" (defArgs s_run) (defBody s_run) (defScope s_run) .none kV17 dc17 pm17 an17 cd17 ct17, fun s us hu => match us, hu with | [_, _, _, _], _ => .of_eq rfl, fun base _ _ => ?_⟩
  have h_is_washing : Has P w K mg base "is_washing" 1 ["w"] sp_is_washing f1 _ := ⟨ok_is_washing F1 c_MOST_WASHING, PySem.W.mg_of X G a1, k1, b1⟩
  have h_is_limit : Has P w K mg base "is_limit" 1 ["limit"] sp_is_limit f2 _ := ⟨ok_is_limit F2 c_MOST_LIMIT, PySem.W.mg_of X G a2, k2, b2⟩
  have h_are_ticks : Has P w K mg base "are_ticks" 1 ["n"] sp_are_ticks f3 _ := ⟨ok_are_ticks F3 c_MOST_TICKS, PySem.W.mg_of X G a3, k3, b3⟩
  have h_is_filter : Has P w K mg base "is_filter" 1 ["cake", "left"] sp_is_filter f4 _ := ⟨ok_is_filter F4 c_MOST_CAKE c_MOST_WASHING, PySem.W.mg_of X G a4, k4, b4⟩
  have h_is_even : Has P w K mg base "is_even" 1 ["many"] sp_is_even f5 _ := ⟨ok_is_even F5, PySem.W.mg_of X G a5, k5, b5⟩
  have h_are_as_many : Has P w K mg base "are_as_many" 2 ["numbers"] (sp_are_as_many K) f6 _ := ⟨ok_are_as_many F6 c_MOST_FILTERS h_is_even z_len, PySem.W.mg_of X G a6, k6, b6⟩
  have h_through : Has P w K mg base "through" 1 ["cake"] sp_through f7 _ := ⟨ok_through F7 c_THROUGH c_CLEAN, PySem.W.mg_of X G a7, k7, b7⟩
  have h_stand_of : Has P w K mg base "stand_of" 1 ["numbers"] (sp_stand_of K) f8 _ := ⟨ok_stand_of F8 z_len z_range, PySem.W.mg_of X G a8, k8, b8⟩
  have h_numbers_of : Has P w K mg base "numbers_of" 1 ["stand"] (sp_numbers_of K) f9 _ := ⟨ok_numbers_of F9, PySem.W.mg_of X G a9, k9, b9⟩
  have h_washed_in : Has P w K mg base "washed_in" 1 ["stand"] (sp_washed_in K) f10 _ := ⟨ok_washed_in F10, PySem.W.mg_of X G a10, k10, b10⟩
  have h_are_filters : Has P w K mg base "are_filters" 3 ["numbers"] (sp_are_filters K) f11 _ := ⟨ok_are_filters F11 h_are_as_many h_stand_of h_is_filter h_washed_in z_all z_len, PySem.W.mg_of X G a11, k11, b11⟩
  have h_through_stand : Has P w K mg base "through_stand" 2 ["stand"] (sp_through_stand K) f12 _ := ⟨ok_through_stand F12 h_through z_sum, PySem.W.mg_of X G a12, k12, b12⟩
  have h_aged : Has P w K mg base "aged" 1 ["one"] (sp_aged K) f13 _ := ⟨ok_aged F13, PySem.W.mg_of X G a13, k13, b13⟩
  have h_first_full : Has P w K mg base "first_full" 1 ["stand", "limit"] (sp_first_full K) f14 _ := ⟨ok_first_full F14 z_enumerate, PySem.W.mg_of X G a14, k14, b14⟩
  have h_put_to_washing : Has P w K mg base "put_to_washing" 2 ["stand", "w", "limit"] (sp_put_to_washing K) f15 _ := ⟨ok_put_to_washing F15 h_first_full h_washed_in, PySem.W.mg_of X G a15, k15, b15⟩
  have h_ticked : Has P w K mg base "ticked" 3 ["stand", "w", "limit"] (sp_ticked K) f16 _ := ⟨ok_ticked F16 h_aged h_put_to_washing, PySem.W.mg_of X G a16, k16, b16⟩
  exact ok_run F17 c_REFUSED h_is_washing h_is_limit h_are_ticks h_are_filters h_stand_of h_through_stand h_ticked h_numbers_of z_range
end Jf
open PySem PySem.W PyProof.Rows
set_option maxRecDepth 100000 in
set_option maxHeartbeats 0 in
theorem PySem.Challenge.cw_juicefilters_s06_run_holds : PySem.Challenge.rw_juicefilters_s06_run.Holds := by
  w_on; k_headS; (case hw => exact ⟨[.int 0, .int 0, .int 0, .list []], by decide +kernel, by decide +kernel⟩)
  k_fillS
  refine L2.walk_specK (r := PySem.Challenge.rw_juicefilters_s06_run) (k := 4) (CX := L2.CX0) (ps := ["w", "limit", "n", "filters"]) (sp := fun K => (Jf.sp_run K)) (by decide +kernel) rfl rfl ⟨rfl, by decide, by decide⟩ (fun w h Y => PySem.W.kIn_of Y) ?F ?S (fun _ _ _ _ z => z)
  case F =>
    intro w mg fa h Y KX G hmg
    refine' Jf.all_mk KX G hmg ?a1 ?l1 ?c1 ?k1 ?a2 ?l2 ?c2 ?k2 ?a3 ?l3 ?c3 ?k3 ?a4 ?l4 ?c4 ?k4 ?a5 ?l5 ?c5 ?k5 ?a6 ?l6 ?c6 ?k6 ?a7 ?l7 ?c7 ?k7 ?a8 ?l8 ?c8 ?k8 ?a9 ?l9 ?c9 ?k9 ?a10 ?l10 ?c10 ?k10 ?a11 ?l11 ?c11 ?k11 ?a12 ?l12 ?c12 ?k12 ?a13 ?l13 ?c13 ?k13 ?a14 ?l14 ?c14 ?k14 ?a15 ?l15 ?c15 ?k15 ?a16 ?l16 ?c16 ?k16 ?a17 ?l17 ?c17 ?k17 ?g_CLEAN ?g_MOST_CAKE ?g_MOST_FILTERS ?g_MOST_LIMIT ?g_MOST_TICKS ?g_MOST_WASHING ?g_REFUSED ?g_THROUGH ?n_all ?n_enumerate ?n_len ?n_range ?n_sum
    (case a1 => k_is); (case l1 => k_is); (case c1 => k_is); (case k1 => k_is); (case a2 => k_is); (case l2 => k_is)
    (case c2 => k_is); (case k2 => k_is); (case a3 => k_is); (case l3 => k_is); (case c3 => k_is); (case k3 => k_is)
    (case a4 => k_is); (case l4 => k_is); (case c4 => k_is); (case k4 => k_is); (case a5 => k_is); (case l5 => k_is)
    (case c5 => k_is); (case k5 => k_is); (case a6 => k_is); (case l6 => k_is); (case c6 => k_is); (case k6 => k_is)
    (case a7 => k_is); (case l7 => k_is); (case c7 => k_is); (case k7 => k_is); (case a8 => k_is); (case l8 => k_is)
    (case c8 => k_is); (case k8 => k_is); (case a9 => k_is); (case l9 => k_is); (case c9 => k_is); (case k9 => k_is)
    (case a10 => k_is); (case l10 => k_is); (case c10 => k_is); (case k10 => k_is); (case a11 => k_is); (case l11 => k_is)
    (case c11 => k_is); (case k11 => k_is); (case a12 => k_is); (case l12 => k_is); (case c12 => k_is); (case k12 => k_is)
    (case a13 => k_is); (case l13 => k_is); (case c13 => k_is); (case k13 => k_is); (case a14 => k_is); (case l14 => k_is)
    (case c14 => k_is); (case k14 => k_is); (case a15 => k_is); (case l15 => k_is); (case c15 => k_is); (case k15 => k_is)
    (case a16 => k_is); (case l16 => k_is); (case c16 => k_is); (case k16 => k_is); (case a17 => k_is); (case l17 => k_is)
    (case c17 => k_is); (case k17 => k_is); (case g_CLEAN => k_is); (case g_MOST_CAKE => k_is); (case g_MOST_FILTERS => k_is); (case g_MOST_LIMIT => k_is)
    (case g_MOST_TICKS => k_is); (case g_MOST_WASHING => k_is); (case g_REFUSED => k_is); (case g_THROUGH => k_is); (case n_all => k_is); (case n_enumerate => k_is)
    (case n_len => k_is); (case n_range => k_is); (case n_sum => k_is)
  case S =>
    intro K H xs a hO hwi hask hx
    obtain ⟨a1, a2, a3, a4, u⟩ := a
    have q : (Codec.inInt 0 4294967295 a1 && (Codec.inInt 0 4294967295 a2 && (Codec.inInt 0 4294967295 a3 && ((Codec.inLen 0 16 a4 && a4.all (Codec.inInt 0 4294967295)) && true)))) = true := hwi
    rw [Bool.and_eq_true, Bool.and_eq_true, Bool.and_eq_true, Bool.and_eq_true, Bool.and_eq_true] at q
    have q1 := (Codec.inInt_iff.mp q.1).1
    have q2 := (Codec.inInt_iff.mp q.2.1).1
    have q3 := (Codec.inInt_iff.mp q.2.2.1).1
    have q4 := (Codec.inNat_iff.mp q.2.2.2.1.1).2
    have q5 := List.all_eq_true.mp q.2.2.2.1.2
    obtain ⟨v, rfl⟩ : ∃ v : Nat, a1 = (v : Int) := ⟨a1.toNat, (Int.toNat_of_nonneg q1).symm⟩
    obtain ⟨m, rfl⟩ : ∃ m : Nat, a2 = (m : Int) := ⟨a2.toNat, (Int.toNat_of_nonneg q2).symm⟩
    obtain ⟨n, rfl⟩ : ∃ n : Nat, a3 = (n : Int) := ⟨a3.toNat, (Int.toNat_of_nonneg q3).symm⟩
    obtain ⟨ns, rfl⟩ : ∃ ns : List Nat, a4 = ns.map fun n : Nat => (n : Int) := ⟨a4.map Int.toNat, Jf.ints_nats a4 fun z hz => (Codec.inInt_iff.mp (q5 z hz)).1⟩
    cases hx with
    | cons h1 h2 =>
      cases h2 with
      | cons h3 h4 =>
        cases h4 with
        | cons h5 h6 =>
          cases h6 with
          | cons h7 h8 =>
            cases h8
            cases h1
            cases h3
            cases h5
            cases h7 with
            | lst hs ha =>
              have e := L2.ints_dw (ns.map fun n : Nat => (n : Int)) _ ha
              subst e
              refine ⟨v, m, n, _, ns, rfl, ?_, ?_, fun H' p hp => .lst (L2.SqL.of hp) (L2.dw_ints _)⟩
              · rw [List.map_map] at hs
                exact hs
              · rw [List.length_map] at q4
                exact Nat.le_trans q4 (by decide)
#print axioms PySem.Challenge.cw_juicefilters_s06_run_holds
