/- What it means that a value in memory is a plain value, and what a contract of a function says. Definitions alone: no condition. -/
import Derived.Test.YtnidojjahhhaaaaAba
namespace Go.Ab

/-- Where own object k lies: in a block (or nothing is laid for it yet), with room for so many rows. -/
abbrev OMap := Nat → Option (Option Nat × Nat)
/-- The own objects, by number. -/
abbrev OFun := Nat → Option Obj

def getO (H : Heap) : OFun := fun k => (H[k]?).getD none

/-- Value v is the plain value p; all memory that is read lies in blocks of A. -/
inductive RepI (A : Nat → Prop) (w : World) : PV → Value → Prop
  | int (k : IntKind) (n : Int) : RepI A w (.int k n) (.int k n)
  | bool (b : Bool) : RepI A w (.bool b) (.bool b)
  | str (s : List UInt8) (b : ByteArray) (h : b.data.toList = s) : RepI A w (.str s) (.string b)
  | agg (cs : List PV) (us : Array Value) (hl : us.size = cs.length) (h : ∀ i c, cs[i]? = some c → RepI A w c (us.getD i undef)) : RepI A w (.agg cs) (.agg us)
  | tup (cs : List PV) (us : Array Value) (hl : us.size = cs.length) (h : ∀ i c, cs[i]? = some c → RepI A w c (us.getD i undef)) : RepI A w (.tup cs) (.tuple us)
  | nils (ao : Option Addr) : RepI A w .nils (.slice ao 0 0)
  | slE (z : Nat) (ao : Option Addr) (cap : Nat) : RepI A w (.sl z []) (.slice ao 0 cap)
  | sl (z : Nat) (rows : List (List PV)) (b o cap : Nat) (u : Nat → Nat → Value) (hA : A b) (hc : rows.length ≤ cap)
      (hz : ∀ (i : Nat) (r : List PV), rows[i]? = some r → r.length = z)
      (hu : ∀ (i j : Nat) (r : List PV) (c : PV), rows[i]? = some r → r[j]? = some c → w.cell? ⟨b, o + (i * z + j), none⟩ = some (u i j))
      (h : ∀ (i j : Nat) (r : List PV) (c : PV), rows[i]? = some r → r[j]? = some c → RepI A w c (u i j)) :
      RepI A w (.sl z rows) (.slice (some ⟨b, o, none⟩) rows.length cap)
  | pe (z : Nat) (rows : List (List PV)) (i' off : Nat) (b o : Nat) (u : Nat → Nat → Value) (hA : A b)
      (hz : ∀ (i : Nat) (r : List PV), rows[i]? = some r → r.length = z)
      (hu : ∀ (i j : Nat) (r : List PV) (c : PV), rows[i]? = some r → r[j]? = some c → w.cell? ⟨b, o + (i * z + j), none⟩ = some (u i j))
      (h : ∀ (i j : Nat) (r : List PV) (c : PV), rows[i]? = some r → r[j]? = some c → RepI A w c (u i j)) :
      RepI A w (.pe z rows i' off) (.pointer (some ⟨b, o + (i' * z + off), none⟩))
  | fn (f : Nat) (cs : List PV) (us : Array Value) (hl : us.size = cs.length) (h : ∀ i c, cs[i]? = some c → RepI A w c (us.getD i undef)) : RepI A w (.fn f cs) (.func (.func f) #[] us)
  | raw (v : Value) : RepI A w (.raw v) v
  | top (v : Value) : RepI A w .top v
  | ef (f : Nat) (v : Value) : RepI A w (.ef f) v

/-- Where an object lies, as a value. -/
def ownV (ob : Option Nat) (C : Nat) : Value := .slice (ob.map fun b => ⟨b, 0, none⟩) C C

/-- The same, own objects allowed. -/
inductive RepO (A : Nat → Prop) (m : OMap) (h : OFun) (w : World) : PV → Value → Prop
  | imm {p : PV} {v : Value} (hi : RepI A w p v) : RepO A m h w p v
  | sfN (k z C : Nat) (ao : Option Addr) (hk : h k = some (.arr z [])) (hm : m k = some (none, C)) : RepO A m h w (.sf k z) (.slice ao 0 0)
  | sf (k z C b : Nat) (rows : List (List PV)) (hk : h k = some (.arr z rows)) (hm : m k = some (some b, C)) : RepO A m h w (.sf k z) (.slice (some ⟨b, 0, none⟩) rows.length C)
  | so0 (k z C cap : Nat) (ao : Option Addr) (hk : h k = some (.arr z [])) (hm : m k = some (none, C)) (hcap : cap = 0) : RepO A m h w (.so k z 0 0) (.slice ao 0 cap)
  | soE (k z lo C cap : Nat) (ao : Option Addr) (rows : List (List PV)) (b : Nat) (hk : h k = some (.arr z rows)) (hm : m k = some (some b, C)) (hlo : 0 < lo) : RepO A m h w (.so k z lo 0) (.slice ao 0 cap)
  | so (k z lo len C cap b : Nat) (rows : List (List PV)) (hk : h k = some (.arr z rows)) (hm : m k = some (some b, C)) (hl : lo + len ≤ rows.length) (hcap : lo + cap = C) :
      RepO A m h w (.so k z lo len) (.slice (some ⟨b, lo * z, none⟩) len cap)
  | pa (k z i off C b : Nat) (rows : List (List PV)) (hk : h k = some (.arr z rows)) (hm : m k = some (some b, C)) : RepO A m h w (.pa k z i off) (.pointer (some ⟨b, i * z + off, none⟩))
  | pb (k off C b : Nat) (cs : List PV) (hk : h k = some (.box cs)) (hm : m k = some (some b, C)) : RepO A m h w (.pb k off) (.pointer (some ⟨b, off, none⟩))
  | agg (cs : List PV) (us : Array Value) (hl : us.size = cs.length) (hh : ∀ i c, cs[i]? = some c → RepO A m h w c (us.getD i undef)) : RepO A m h w (.agg cs) (.agg us)
  | tup (cs : List PV) (us : Array Value) (hl : us.size = cs.length) (hh : ∀ i c, cs[i]? = some c → RepO A m h w c (us.getD i undef)) : RepO A m h w (.tup cs) (.tuple us)
  | fn (f : Nat) (cs : List PV) (us : Array Value) (hl : us.size = cs.length) (hh : ∀ i c, cs[i]? = some c → RepO A m h w c (us.getD i undef)) : RepO A m h w (.fn f cs) (.func (.func f) #[] us)
  | own (k C : Nat) (ob : Option Nat) (o : Obj) (hk : h k = some o) (hm : m k = some (ob, C)) : RepO A m h w (.own k) (ownV ob C)
  | cp (k C : Nat) (ob : Option Nat) (o : Obj) (v : Value) (hk : h k = some o) (hm : m k = some (ob, C)) : RepO A m h w (.cp k C) v
  | optT (p : PV) (v : Value) (hh : RepO A m h w p v) : RepO A m h w (.opt true p) v
  | optF (p : PV) : RepO A m h w (.opt false p) undef

/-- Own object o lies so. -/
def ObjAt (A : Nat → Prop) (m : OMap) (h : OFun) (w : World) : Obj → Option Nat → Nat → Prop
  | .arr _ rows, none, C => rows = [] ∧ C = 0
  | .arr z rows, some b, C => ¬ A b ∧ b < w.heap.size ∧ rows.length ≤ C ∧ C ≤ maxLen ∧ (∀ (i : Nat) (r : List PV), rows[i]? = some r → r.length = z) ∧
      ∃ (cur : Array Value) (e : TypeId), w.heap[b]? = some (.cells cur e (0, 0)) ∧ cur.size = C * z ∧
        ∀ (i j : Nat) (r : List PV) (c : PV), rows[i]? = some r → r[j]? = some c → ∃ u, cur[i * z + j]? = some u ∧ RepI A w c u
  | .box _, none, _ => False
  | .box cs, some b, _ => ¬ A b ∧ b < w.heap.size ∧
      ∃ (cur : Array Value) (e : TypeId), w.heap[b]? = some (.cells cur e (0, 0)) ∧ cur.size = cs.length ∧
        ∀ (j : Nat) (c : PV), cs[j]? = some c → ∃ u, cur[j]? = some u ∧ RepO A m h w c u

/-- The own objects lie in memory, each in a block of its own. -/
structure ConcO (A : Nat → Prop) (m : OMap) (h : OFun) (w : World) : Prop where
  at_ : ∀ k o, h k = some o → ∃ ob C, m k = some (ob, C) ∧ ObjAt A m h w o ob C
  inj : ∀ k k' o o' b C C', h k = some o → h k' = some o' → m k = some (some b, C) → m k' = some (some b, C') → k = k'

/-- The blocks of A are there. -/
def AOk (A : Nat → Prop) (w : World) : Prop := ∀ b, A b → b < w.heap.size

/-- Block b is that of an own object. -/
def OwnB (m : OMap) (h : OFun) (b : Nat) : Prop := ∃ k o C, h k = some o ∧ m k = some (some b, C)

/-- From w to w': no block that was there has turned but those of M. -/
structure Moved (M : Nat → Prop) (w w' : World) : Prop where
  os : w'.os = w.os
  tape : w'.tape = w.tape
  output : w'.output = w.output
  size : w.heap.size ≤ w'.heap.size
  block : ∀ b, b < w.heap.size → ¬ M b → w'.heap[b]? = w.heap[b]?

/-- Function f is called (entered, or answered by the model itself). -/
def CallS (P : Program) (f : FuncId) (args : Array Value) (w : World) (R : Ending → World → Prop) : Prop :=
  match (callFunc f args).run P w with
  | .ok (.enter g as) w1 => w1 = w ∧ Calls P g as w R
  | .ok (.value v) w1 => w1 = w ∧ R (.returned v) w
  | _ => False

/-- What stands behind a call: the value v is p, the own objects are h'. -/
structure Came (A : Nat → Prop) (m : OMap) (h : OFun) (w : World) (p : PV) (h' : OFun) (v : Value) (w' : World) (A' : Nat → Prop) (m' : OMap) : Prop where
  moved : Moved (OwnB m h) w w'
  sub : ∀ b, A' b → A b ∨ OwnB m h b ∨ w.heap.size ≤ b
  aok : AOk A' w'
  conc : ConcO A' m' h' w'
  own : ∀ b, OwnB m' h' b → OwnB m h b ∨ w.heap.size ≤ b
  rep : RepO A' m' h' w' p v

/-- THE CONTRACT: called with the values args, beside own objects Hin that are handed over, f returns res and leaves the own objects Hout (first those handed over, then new ones). -/
def HFn (P : Program) (f : FuncId) (args : List PV) (Hin : Heap) (res : PV) (Hout : Heap) : Prop :=
  ∀ (A : Nat → Prop) (m : OMap) (w : World) (vs : Array Value), AOk A w → ConcO A m (getO Hin) w → vs.size = args.length →
    (∀ i p, args[i]? = some p → RepO A m (getO Hin) w p (vs.getD i undef)) →
    CallS P f vs w fun e w' => ∃ v A' m', e = .returned v ∧ Came A m (getO Hin) w res (getO Hout) v w' A' m'

/-- The same make, the same number of rows. -/
def SameShape : Obj → Obj → Prop
  | .arr z r, .arr z' r' => z = z' ∧ r.length = r'.length
  | .box _, .box _ => True
  | _, _ => False

/-- THE CONTRACT OF A FUNCTION THAT TURNS OWN OBJECTS: those of Hin whose numbers are in kp stay where they lie, and keep their shape. -/
def MFn (P : Program) (f : FuncId) (args : List PV) (Hin : Heap) (kp : List Nat) (res : PV) (Hout : Heap) : Prop :=
  ∀ (A : Nat → Prop) (m : OMap) (w : World) (vs : Array Value), AOk A w → ConcO A m (getO Hin) w → vs.size = args.length →
    (∀ i p, args[i]? = some p → RepO A m (getO Hin) w p (vs.getD i undef)) →
    CallS P f vs w fun e w' => ∃ v A' m', e = .returned v ∧ Came A m (getO Hin) w res (getO Hout) v w' A' m' ∧
      ∀ k, k ∈ kp → m' k = m k ∧ ∃ o o', getO Hin k = some o ∧ getO Hout k = some o' ∧ SameShape o o'

/-- Where a function's run began: its first world, the memory that it may read, the blocks that were handed over to it. -/
structure Ctx where
  w0 : World
  A0 : Nat → Prop
  M0 : Nat → Prop
  gh : Nat → Value

/-- What slot t holds; the slots from n on are no slots of the frame: values that the run keeps in mind. -/
def look (x : Ctx) (n : Nat) (a : Act) (t : Nat) : Value := if t < n then a.tmps.getD t undef else x.gh t

/-- In the middle of a run: frame and world are what the plain state says. -/
structure Inv (c : Ctx) (n : Nat) (S : St) (a : Act) (w : World) (A : Nat → Prop) (m : OMap) : Prop where
  moved : Moved c.M0 c.w0 w
  sub : ∀ b, A b → c.A0 b ∨ c.M0 b ∨ c.w0.heap.size ≤ b
  aok : AOk A w
  conc : ConcO A m (getO S.H) w
  own : ∀ b, OwnB m (getO S.H) b → c.M0 b ∨ c.w0.heap.size ≤ b
  fr : ∀ t, RepO A m (getO S.H) w (slot S.fr t) (look c n a t)
  sz : a.tmps.size = n
  df : a.defers = []

/-- The code runs from every frame and world that S tells of, and ends where Q says. -/
def AWP (P : Program) (n : Nat) (c : Code) (S : St) (Q : Exit → St → Prop) : Prop :=
  ∀ (x : Ctx) (a : Act) (w : World) (A : Nat → Prop) (m : OMap), Inv x n S a w A m → c.wp P (fun e a' w' => ∃ S' A' m', Q e S' ∧ Inv x n S' a' w' A' m') a w

end Go.Ab
