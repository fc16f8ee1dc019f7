/- Functions that the model itself answers: strings are compared. No condition. -/
import Derived.Test.YtnfjkfjbhdlphaaGreatKc
import Derived.Lib.Bytealg
import Derived.Laws.Externs
namespace Go.Ab
variable {P : Program} {A A' : Nat → Prop} {m m' : OMap} {h h' : OFun} {w w' : World} {H : Heap}

theorem args2 {vs : Array Value} (h : vs.size = 2) : vs = #[vs.getD 0 undef, vs.getD 1 undef] := by
  apply Array.ext
  · simp [h]
  · intro i h1 h2
    have : i = 0 ∨ i = 1 := by omega
    rcases this with rfl | rfl <;> simp [Array.getD_eq_getD_getElem?, h]

/-- A function that the model answers, with a value that owns nothing. -/
theorem hfn_extern {f : Nat} {fn : Func} {e : Array Value → Sem Value} (hf : P.funcs[f]? = some fn) (hname : (fn.name == "runtime.NumGoroutine") = false) (hb : fn.body.isNone = true) (hn : Extern.findNext fn = none) (he : Extern.find fn = some e) {args : List PV} {res : PV}
    (h : ∀ (A : Nat → Prop) (w : World) (vs : Array Value), vs.size = args.length → (∀ (i : Nat) (p : PV), args[i]? = some p → RepO A (fun _ => none) (fun _ => none) w p (vs.getD i undef)) → ∃ v, (e vs).run P w = .ok v w ∧ RepI A w res v) (hplain : ∀ (i : Nat) (p : PV), args[i]? = some p → noOwnA p = true) :
    HFn P f args [] res [] := fun A m w vs hA hC hsz hargs => by
  obtain ⟨v, hv, hr⟩ := h A w vs hsz fun i p hp => .imm ((hargs i p hp).toI (hplain i p hp))
  unfold CallS
  rw [run_callFunc_extern hf hname hb hn he, hv]
  exact ⟨rfl, v, A, m, rfl, ⟨.refl _ _, fun b hb => .inl hb, hA, hC, fun b hb => .inl hb, .imm hr⟩⟩

theorem hfn_cmpstring {f : Nat} {fn : Func} (hf : P.funcs[f]? = some fn) (hname : (fn.name == "runtime.NumGoroutine") = false) (hb : fn.body.isNone = true) (hn : Extern.findNext fn = none) (he : Extern.find fn = some Extern.BytealgCompare.compare) (a b : List UInt8) :
    HFn P f [.str a, .str b] [] (.int .i64 (Lib.compareBytes a b)) [] :=
  hfn_extern hf hname hb hn he (fun A w vs hsz hargs => by
    obtain ⟨x, hx, rfl⟩ := (hargs 0 _ rfl).str
    obtain ⟨y, hy, rfl⟩ := (hargs 1 _ rfl).str
    rw [args2 hsz, hx, hy]
    exact ⟨_, Lib.run_compareString x y w, .int _ _⟩) fun i p hp => by
    have : i < 2 := (List.getElem?_eq_some_iff.1 hp).1
    obtain rfl | rfl : i = 0 ∨ i = 1 := by omega
    · cases hp; rfl
    · cases hp; rfl

end Go.Ab
