/- The equations by which the plain run is computed. No condition. -/
import Derived.Test.YtcjpfjklhhclmaaGreatDoorKa
namespace Go.Ab

/-! ### The equations -/
section eqs
variable {P : Program} {n : Nat} {fr : Fr} {H : Heap} {Q : Exit → St → Prop} {K : St → Prop} {q : Bool} {d : Option Nat}

@[congr] theorem awp_congr {c : Code} {S S' : St} (h : S = S') : awp P n c S Q = awp P n c S' Q := by rw [h]
@[congr] theorem aOps_congr {all l : List Oper} {q q' : Bool} {S S' : St} (hq : q = q') (h : S = S') : aOps P q all l S K = aOps P q' all l S' K := by rw [h, hq]
@[congr] theorem aEx_congr {op : Op} {q q' : Bool} {S S' : St} (hq : q = q') (h : S = S') : aEx P q op d S K = aEx P q' op d S' K := by rw [h, hq]
@[congr] theorem CallZ_congr {f : FuncId} {as as' bs bs' : List PV} {ok ok' own own' : Bool} {S S' : St} (ha : as = as') (hb : bs = bs') (hok : ok = ok') (hown : own = own') (h : S = S') : CallZ P q f bs ok own as d S K = CallZ P q f bs' ok' own' as' d S' K := by rw [h, ha, hb, hok, hown]
@[congr] theorem CallY_congr {f : FuncId} {as as' bs bs' : List PV} {ok ok' own own' c c' : Bool} {S S' : St} (ha : as = as') (hb : bs = bs') (hok : ok = ok') (hown : own = own') (hc : c = c') (h : S = S') : CallY P q f bs ok own c as d S K = CallY P q f bs' ok' own' c' as' d S' K := by rw [h, ha, hb, hok, hown, hc]
@[simp] theorem CallX_eq {f : FuncId} {as : List PV} : CallX P q f as d ⟨fr, H⟩ K = CallZ P q f (as.map (imm H)) ((as.map (imm H)).all noOwn && as.all (boxOk H)) (as.all noOwn) as d ⟨fr, H⟩ K := rfl
@[simp] theorem CallG_eq {f : FuncId} {as : List PV} {c : Bool} : CallG P q f as c d ⟨fr, H⟩ K = CallY P q f (as.map (imm H)) ((as.map (imm H)).all noOwn && as.all (boxOk H)) (as.all noOwn) c as d ⟨fr, H⟩ K := rfl
@[congr] theorem Ends_congr {c : Code} {S S' : St} (h : S = S') : Ends P n c S Q = Ends P n c S' Q := by rw [h]
@[congr] theorem gK_congr {p p' : PV} {w : Bool} {L : Bool → Prop} (h : p = p') : gK p w L = gK p' w L := by rw [h]
@[simp] theorem guardV_eq {all : List Oper} {j : Nat} {w : Bool} {L : Bool → Prop} : guardV all fr j w L = gD (dstAt all j) fr w L := rfl
@[simp] theorem gD_some {d : Nat} {w : Bool} {L : Bool → Prop} : gD (some d) fr w L = gK (slot fr d) w L := rfl
@[simp] theorem gK_bool {b w : Bool} {L : Bool → Prop} : gK (.bool b) w L = L (b == w) := rfl
@[simp] theorem gK_opt {c b w : Bool} {L : Bool → Prop} : gK (.opt c (.bool b)) w L = L (c && (b == w)) := rfl
@[simp] theorem awp_skip : awp P n .skip ⟨fr, H⟩ Q = Q .normal ⟨fr, H⟩ := rfl
@[simp] theorem awp_region {id : Nat} {l : List Oper} {b : Bool} : awp P n (.region id l.toArray b) ⟨fr, H⟩ Q = aOps P b l l ⟨fr, H⟩ (Q .normal) := rfl
@[simp] theorem awp_seq {a b : Code} : awp P n (.seq a b) ⟨fr, H⟩ Q = awp P n a ⟨fr, H⟩ (thenQ (fun S' => awp P n b S' Q) Q) := rfl
@[simp] theorem awp_cond {c : Operand} {x y : Code} : awp P n (.cond c x y) ⟨fr, H⟩ Q = (okv fr c ∧ condK (ev fr c) (awp P n x ⟨fr, H⟩ Q) (awp P n y ⟨fr, H⟩ Q)) := rfl
@[simp] theorem awp_block {id : Nat} {b : Code} : awp P n (.block id b) ⟨fr, H⟩ Q = awp P n b ⟨fr, H⟩ (blockQ id Q) := rfl
@[simp] theorem awp_loop {b : Code} : awp P n (.loop b) ⟨fr, H⟩ Q = Ends P n (.loop b) ⟨fr, H⟩ Q := rfl
@[simp] theorem awp_exit {id : Nat} : awp P n (.exit id) ⟨fr, H⟩ Q = Q (.exit id) ⟨fr, H⟩ := rfl
@[simp] theorem awp_ret : awp P n .ret ⟨fr, H⟩ Q = Q .ret ⟨fr, H⟩ := rfl

@[simp] theorem thenQ_normal {S : St} : thenQ K Q .normal S = K S := rfl
@[simp] theorem thenQ_exit {id : Nat} {S : St} : thenQ K Q (.exit id) S = Q (.exit id) S := rfl
@[simp] theorem thenQ_ret {S : St} : thenQ K Q .ret S = Q .ret S := rfl
@[simp] theorem blockQ_normal {id : Nat} {S : St} : blockQ id Q .normal S = Q .normal S := rfl
@[simp] theorem blockQ_exit {id id' : Nat} {S : St} : blockQ id Q (.exit id') S = bif id' == id then Q .normal S else Q (.exit id') S := rfl
@[simp] theorem blockQ_ret {id : Nat} {S : St} : blockQ id Q .ret S = Q .ret S := rfl

@[simp] theorem aOps_nil {all : List Oper} : aOps P q all [] ⟨fr, H⟩ K = K ⟨fr, H⟩ := rfl
@[simp] theorem aOps_none {all r : List Oper} {op : Op} {ty : TypeId} {pos : String} {af : Array Edge} :
    aOps P q all (⟨d, op, ty, pos, af, none⟩ :: r) ⟨fr, H⟩ K = (bif q && markB fr op then drawOkT all (all.length - (r.length + 1)) = true ∧ aEx P false op d ⟨fr, H⟩ fun S' => aOps P false all r S' K
      else aEx P (q && !isEff all op) op d ⟨fr, H⟩ fun S' => aOps P (q && !isEff all op) all r S' K) := rfl
@[simp] theorem markB_call {c : Call} : markB fr (.call c) = match calleeF (.call c) with | some f => isEf f (slot fr effS) | none => false := rfl
@[simp] theorem calleeF_value {f : FuncId} {as : Array Operand} {ts : Array TypeId} : calleeF (.call { callee := .value (.func f), args := as, argTypes := ts }) = some f := rfl
@[simp] theorem calleeF_tmp {f : Tmp} {as : Array Operand} {ts : Array TypeId} : calleeF (.call { callee := .value (.tmp f), args := as, argTypes := ts }) = none := rfl
@[simp] theorem calleeF_builtin {b : Builtin} {as : Array Operand} {ts : Array TypeId} : calleeF (.call { callee := .builtin b, args := as, argTypes := ts }) = none := rfl
@[simp] theorem isEf_ef {f g : Nat} : isEf f (.ef g) = (f == g) := rfl
@[simp] theorem isEf_top {f : Nat} : isEf f .top = false := rfl
@[simp] theorem markB_move {x} : markB fr (.move x) = false := rfl
@[simp] theorem markB_assign {x} : markB fr (.assign x) = false := rfl
@[simp] theorem markB_nilCheck {x} : markB fr (.nilCheck x) = false := rfl
@[simp] theorem markB_pick {a b c} : markB fr (.pick a b c) = false := rfl
@[simp] theorem markB_binOp {o t a b u} : markB fr (.binOp o t a b u) = false := rfl
@[simp] theorem markB_unOp {o t a} : markB fr (.unOp o t a) = false := rfl
@[simp] theorem markB_convert {s t a} : markB fr (.convert s t a) = false := rfl
@[simp] theorem markB_load {t a} : markB fr (.load t a) = false := rfl
@[simp] theorem markB_store {t a x} : markB fr (.store t a x) = false := rfl
@[simp] theorem markB_fieldAddr {t a f} : markB fr (.fieldAddr t a f) = false := rfl
@[simp] theorem markB_field {t a f} : markB fr (.field t a f) = false := rfl
@[simp] theorem markB_indexAddr {t a i} : markB fr (.indexAddr t a i) = false := rfl
@[simp] theorem markB_index {t a i} : markB fr (.index t a i) = false := rfl
@[simp] theorem markB_slice {t a l h m} : markB fr (.slice t a l h m) = false := rfl
@[simp] theorem markB_extract {a i} : markB fr (.extract a i) = false := rfl
@[simp] theorem markB_build {t ps} : markB fr (.build t ps) = false := rfl
@[simp] theorem markB_makeFunc {f a b} : markB fr (.makeFunc f a b) = false := rfl
@[simp] theorem markB_alloc {t} : markB fr (.alloc t) = false := rfl
@[simp] theorem markB_box {t a} : markB fr (.box t a) = false := rfl
@[simp] theorem markB_buildSlice {t n ps} : markB fr (.buildSlice t n ps) = false := rfl
@[simp] theorem markB_makeSlice {t l c} : markB fr (.makeSlice t l c) = false := rfl
@[simp] theorem aOps_some {all r : List Oper} {op : Op} {ty : TypeId} {pos : String} {af : Array Edge} {j : Nat} {b : Bool} :
    aOps P q all (⟨d, op, ty, pos, af, some (j, b)⟩ :: r) ⟨fr, H⟩ K = guardV all fr j b fun c => aGd P q c op d ⟨fr, H⟩ fun S' => aOps P q all r S' K := rfl
@[simp] theorem dstAt_zero {d : Option Nat} {op : Op} {ty : TypeId} {pos : String} {af : Array Edge} {g : Option (Nat × Bool)} {r : List Oper} : dstAt (⟨d, op, ty, pos, af, g⟩ :: r) 0 = d := rfl
@[simp] theorem dstAt_succ {o : Oper} {r : List Oper} {j : Nat} : dstAt (o :: r) (j + 1) = dstAt r j := rfl

/-! ### Frames and operands -/
@[simp] theorem slot_nil {t : Nat} : slot [] t = .top := rfl
@[simp] theorem slot_cons {i t : Nat} {p : PV} {r : Fr} : slot ((i, p) :: r) t = bif i == t then p else slot r t := rfl
@[simp] theorem put_some {fr : Fr} {t : Nat} {p : PV} : put fr (some t) p = (t, p) :: fr := rfl
@[simp] theorem put_none {fr : Fr} {p : PV} : put fr none p = fr := rfl
@[simp] theorem ev_tmp {t : Nat} : ev fr (.tmp t) = strip (slot fr t) := rfl
@[simp] theorem ev_global {g : Nat} : ev fr (.global g) = globV g := rfl
@[simp] theorem okv_global {g : Nat} : okv fr (.global g) = True := rfl
@[simp] theorem ev_func {f : FuncId} : ev fr (.func f) = .fn f [] := rfl
@[simp] theorem ev_const {v : Value} : ev fr (.const v) = ofV v := rfl
@[simp] theorem okv_tmp {t : Nat} : okv fr (.tmp t) = okp (slot fr t) := rfl
@[simp] theorem okv_func {f : FuncId} : okv fr (.func f) = True := rfl
@[simp] theorem okv_const {v : Value} : okv fr (.const v) = True := rfl
@[simp] theorem okvs_nil : okvs fr [] = True := rfl
@[simp] theorem okvs_cons {x : Operand} {r : List Operand} : okvs fr (x :: r) = (okv fr x ∧ okvs fr r) := rfl
@[simp] theorem strip_int (k : IntKind) (n : Int) : strip (.int k n) = .int k n := rfl
@[simp] theorem okp_int (k : IntKind) (n : Int) : okp (.int k n) = True := rfl
@[simp] theorem flatV_int (k : IntKind) (n : Int) : flatV (.int k n) = [.int k n] := rfl
@[simp] theorem strip_bool (b : Bool) : strip (.bool b) = .bool b := rfl
@[simp] theorem okp_bool (b : Bool) : okp (.bool b) = True := rfl
@[simp] theorem flatV_bool (b : Bool) : flatV (.bool b) = [.bool b] := rfl
@[simp] theorem strip_str (s : List UInt8) : strip (.str s) = .str s := rfl
@[simp] theorem okp_str (s : List UInt8) : okp (.str s) = True := rfl
@[simp] theorem flatV_str (s : List UInt8) : flatV (.str s) = [.str s] := rfl
@[simp] theorem strip_agg (cs : List PV) : strip (.agg cs) = .agg cs := rfl
@[simp] theorem okp_agg (cs : List PV) : okp (.agg cs) = True := rfl
@[simp] theorem strip_tup (cs : List PV) : strip (.tup cs) = .tup cs := rfl
@[simp] theorem okp_tup (cs : List PV) : okp (.tup cs) = True := rfl
@[simp] theorem flatV_tup (cs : List PV) : flatV (.tup cs) = [.tup cs] := rfl
@[simp] theorem strip_err {b : Bool} : strip (.err b) = .err b := rfl
@[simp] theorem okp_err {b : Bool} : okp (.err b) = True := rfl
@[simp] theorem flatV_err {b : Bool} : flatV (.err b) = [.err b] := rfl
@[simp] theorem strip_nils  : strip (.nils ) = .nils  := rfl
@[simp] theorem okp_nils  : okp (.nils ) = True := rfl
@[simp] theorem flatV_nils  : flatV (.nils ) = [.nils ] := rfl
@[simp] theorem strip_sl (z : Nat) (rows : List (List PV)) : strip (.sl z rows) = .sl z rows := rfl
@[simp] theorem okp_sl (z : Nat) (rows : List (List PV)) : okp (.sl z rows) = True := rfl
@[simp] theorem flatV_sl (z : Nat) (rows : List (List PV)) : flatV (.sl z rows) = [.sl z rows] := rfl
@[simp] theorem strip_pe (z : Nat) (rows : List (List PV)) (i o : Nat) : strip (.pe z rows i o) = .pe z rows i o := rfl
@[simp] theorem okp_pe (z : Nat) (rows : List (List PV)) (i o : Nat) : okp (.pe z rows i o) = True := rfl
@[simp] theorem flatV_pe (z : Nat) (rows : List (List PV)) (i o : Nat) : flatV (.pe z rows i o) = [.pe z rows i o] := rfl
@[simp] theorem strip_sf (k z : Nat) : strip (.sf k z) = .sf k z := rfl
@[simp] theorem okp_sf (k z : Nat) : okp (.sf k z) = True := rfl
@[simp] theorem flatV_sf (k z : Nat) : flatV (.sf k z) = [.sf k z] := rfl
@[simp] theorem strip_so (k z l n : Nat) : strip (.so k z l n) = .so k z l n := rfl
@[simp] theorem okp_so (k z l n : Nat) : okp (.so k z l n) = True := rfl
@[simp] theorem flatV_so (k z l n : Nat) : flatV (.so k z l n) = [.so k z l n] := rfl
@[simp] theorem strip_pa (k z i o : Nat) : strip (.pa k z i o) = .pa k z i o := rfl
@[simp] theorem okp_pa (k z i o : Nat) : okp (.pa k z i o) = True := rfl
@[simp] theorem flatV_pa (k z i o : Nat) : flatV (.pa k z i o) = [.pa k z i o] := rfl
@[simp] theorem strip_pb (k o : Nat) : strip (.pb k o) = .pb k o := rfl
@[simp] theorem okp_pb (k o : Nat) : okp (.pb k o) = True := rfl
@[simp] theorem flatV_pb (k o : Nat) : flatV (.pb k o) = [.pb k o] := rfl
@[simp] theorem strip_fn (f : Nat) (cs : List PV) : strip (.fn f cs) = .fn f cs := rfl
@[simp] theorem okp_fn (f : Nat) (cs : List PV) : okp (.fn f cs) = True := rfl
@[simp] theorem flatV_fn (f : Nat) (cs : List PV) : flatV (.fn f cs) = [.fn f cs] := rfl
@[simp] theorem strip_raw (v : Value) : strip (.raw v) = .raw v := rfl
@[simp] theorem okp_raw (v : Value) : okp (.raw v) = True := rfl
@[simp] theorem flatV_raw (v : Value) : flatV (.raw v) = [.raw v] := rfl
@[simp] theorem strip_top  : strip (.top ) = .top  := rfl
@[simp] theorem okp_top  : okp (.top ) = True := rfl
@[simp] theorem flatV_top  : flatV (.top ) = [.top ] := rfl
@[simp] theorem strip_opt {c : Bool} {p : PV} : strip (.opt c p) = p := rfl
@[simp] theorem okp_opt {c : Bool} {p : PV} : okp (.opt c p) = (c = true) := rfl
@[simp] theorem flatV_agg {cs : List PV} : flatV (.agg cs) = cs := rfl
@[simp] theorem ofV_int {k : IntKind} {v : Int} : ofV (.int k v) = .int k v := rfl
@[simp] theorem ofV_bool {b : Bool} : ofV (.bool b) = .bool b := rfl
@[simp] theorem ofV_str {l : List UInt8} : ofV (.string ⟨l.toArray⟩) = .str l := rfl
@[simp] theorem ofV_nils : ofV (.slice none 0 0) = .nils := rfl
@[simp] theorem ofV_nilp : ofV (.pointer none) = .raw (.pointer none) := rfl
@[simp] theorem ofV_nili : ofV .nilIface = .raw .nilIface := rfl
@[simp] theorem ofV_nilf : ofV .nilFunc = .raw .nilFunc := rfl

/-! ### The operations -/
@[simp] theorem aEx_move {x : Operand} : aEx P q (.move x) d ⟨fr, H⟩ K = (okv fr x ∧ K ⟨put fr d (ev fr x), H⟩) := rfl
@[simp] theorem aEx_assign {x : Operand} : aEx P q (.assign x) d ⟨fr, H⟩ K = (okv fr x ∧ K ⟨put fr d (ev fr x), H⟩) := rfl
@[simp] theorem aEx_nilCheck {x : Operand} : aEx P q (.nilCheck x) d ⟨fr, H⟩ K = ((okv fr x ∧ isPtr (ev fr x)) ∧ K ⟨put fr d (ev fr x), H⟩) := rfl
@[simp] theorem aEx_pick {c a b : Operand} : aEx P q (.pick c a b) d ⟨fr, H⟩ K = (vok P fr H (.pick c a b) ∧ K ⟨put fr d (vop P fr H (.pick c a b)), H⟩) := rfl
@[simp] theorem nilX_nils {H : Heap} {K : Bool → Prop} : nilX H .nils K = (K true ∧ K false) := rfl
@[simp] theorem nilX_sl {H : Heap} {z : Nat} {rows : List (List PV)} {K : Bool → Prop} : nilX H (.sl z rows) K = ((rows = [] → K true) ∧ K false) := rfl
@[simp] theorem nilX_sb {H : Heap} {k z n : Nat} {K : Bool → Prop} : nilX H (.sb k z n) K = K false := rfl
@[simp] theorem nilX_sf {H : Heap} {k z : Nat} {K : Bool → Prop} : nilX H (.sf k z) K = (isArr H k z ∧ (rowsO H k = [] → K true) ∧ K false) := rfl
@[simp] theorem aEx_binOp_tmp {op : BinOp} {t u : TypeId} {x : Operand} {i : Nat} : aEx P q (.binOp op t x (.tmp i) u) d ⟨fr, H⟩ K = ((okv fr x ∧ okv fr (.tmp i) ∧ bk P t op (ev fr x) (ev fr (.tmp i))) ∧ K ⟨put fr d (bv op (ev fr x) (ev fr (.tmp i))), H⟩) := by cases op <;> rfl
@[simp] theorem aEx_binOp_int {op : BinOp} {t u : TypeId} {x : Operand} {k : IntKind} {n : Int} : aEx P q (.binOp op t x (.const (.int k n)) u) d ⟨fr, H⟩ K = ((okv fr x ∧ okv fr (.const (.int k n)) ∧ bk P t op (ev fr x) (ev fr (.const (.int k n)))) ∧ K ⟨put fr d (bv op (ev fr x) (ev fr (.const (.int k n)))), H⟩) := by cases op <;> rfl
@[simp] theorem aEx_binOp_string {op : BinOp} {t u : TypeId} {x : Operand} {s : ByteArray} : aEx P q (.binOp op t x (.const (.string s)) u) d ⟨fr, H⟩ K = ((okv fr x ∧ okv fr (.const (.string s)) ∧ bk P t op (ev fr x) (ev fr (.const (.string s)))) ∧ K ⟨put fr d (bv op (ev fr x) (ev fr (.const (.string s)))), H⟩) := by cases op <;> rfl
@[simp] theorem aEx_binOp_nil {t u : TypeId} {x : Operand} {l c : Nat} : aEx P q (.binOp .eql t x (.const (.slice none l c)) u) d ⟨fr, H⟩ K = (q = false ∧ okv fr x ∧ (elemT P t).isSome = true ∧ nilX H (ev fr x) fun b => K ⟨put fr d (.bool b), H⟩) := rfl
@[simp] theorem errX_eql {c : Bool} {K : Bool → Prop} : errX .eql (.err c) K = K (!c) := rfl
@[simp] theorem errX_neq {c : Bool} {K : Bool → Prop} : errX .neq (.err c) K = K c := rfl
@[simp] theorem aEx_binOp_errE {t u : TypeId} {x : Operand} : aEx P q (.binOp .eql t x (.const .nilIface) u) d ⟨fr, H⟩ K = (q = false ∧ okv fr x ∧ ifaceT P t = true ∧ errX .eql (ev fr x) fun b => K ⟨put fr d (.bool b), H⟩) := rfl
@[simp] theorem aEx_binOp_errN {t u : TypeId} {x : Operand} : aEx P q (.binOp .neq t x (.const .nilIface) u) d ⟨fr, H⟩ K = (q = false ∧ okv fr x ∧ ifaceT P t = true ∧ errX .neq (ev fr x) fun b => K ⟨put fr d (.bool b), H⟩) := rfl
@[simp] theorem errOp_eql : errOp .eql (.const .nilIface) = true := rfl
@[simp] theorem errOp_neq : errOp .neq (.const .nilIface) = true := rfl
@[simp] theorem aEx_unOp {op : UnOp} {t : TypeId} {x : Operand} : aEx P q (.unOp op t x) d ⟨fr, H⟩ K = ((okv fr x ∧ uk op (ev fr x)) ∧ K ⟨put fr d (uv op (ev fr x)), H⟩) := rfl
@[simp] theorem aEx_convert {s t : TypeId} {x : Operand} : aEx P q (.convert s t x) d ⟨fr, H⟩ K = (okv fr x ∧ convX P s t (ev fr x) H (isCv (slot fr cvS)) (fun pv => K ⟨put fr d pv, H⟩) fun cs => K ⟨put fr d (.sb H.length 1 cs.length), H ++ [some (.box cs)]⟩) := rfl
@[simp] theorem aEx_load {t : TypeId} {x : Operand} : aEx P q (.load t x) d ⟨fr, H⟩ K = ((okv fr x ∧ knownT P t = true ∧ 0 < sizeT P t ∧ loadOk H (sizeT P t) (ev fr x)) ∧ K ⟨put fr d (loadV H (aggT P t) (sizeT P t) (ev fr x)), H⟩) := rfl
@[simp] theorem aEx_fieldAddr {t : TypeId} {x : Operand} {f : Nat} : aEx P q (.fieldAddr t x f) d ⟨fr, H⟩ K =
    ((okv fr x ∧ (∃ o a n, fldT P t f = some (o, a, n + 1)) ∧ isPtr (ev fr x)) ∧ K ⟨put fr d (offV (((fldT P t f).map (·.1)).getD 0) (ev fr x)), H⟩) := rfl
@[simp] theorem aEx_field {t : TypeId} {x : Operand} {f : Nat} : aEx P q (.field t x f) d ⟨fr, H⟩ K = (vok P fr H (.field t x f) ∧ K ⟨put fr d (vop P fr H (.field t x f)), H⟩) := rfl
@[simp] theorem aEx_indexAddr {t : TypeId} {x i : Operand} : aEx P q (.indexAddr t x i) d ⟨fr, H⟩ K =
    ((okv fr x ∧ okv fr i ∧ isInt (ev fr i) ∧ idxAOk H (elemT P t) (arrT P t) (sizeT P) (ev fr x) (intV (ev fr i))) ∧ K ⟨put fr d (idxA (elemT P t) (arrT P t) (sizeT P) (ev fr x) (intV (ev fr i))), H⟩) := rfl
@[simp] theorem aEx_index {t : TypeId} {x i : Operand} : aEx P q (.index t x i) d ⟨fr, H⟩ K = (vok P fr H (.index t x i) ∧ K ⟨put fr d (vop P fr H (.index t x i)), H⟩) := rfl
@[simp] theorem aEx_slice {t : TypeId} {x : Operand} {l h m : Option Operand} : aEx P q (.slice t x l h m) d ⟨fr, H⟩ K = (vok P fr H (.slice t x l h m) ∧ K ⟨put fr d (vop P fr H (.slice t x l h m)), H⟩) := rfl
@[simp] theorem aEx_extract {x : Operand} {i : Nat} : aEx P q (.extract x i) d ⟨fr, H⟩ K = (vok P fr H (.extract x i) ∧ K ⟨put fr d (vop P fr H (.extract x i)), H⟩) := rfl
@[simp] theorem aEx_build {t : TypeId} {ps : Array (Nat × Operand)} : aEx P q (.build t ps) d ⟨fr, H⟩ K = (vok P fr H (.build t ps) ∧ K ⟨put fr d (vop P fr H (.build t ps)), H⟩) := rfl
@[simp] theorem aEx_makeFunc {f : Fn} {a b : Array Operand} : aEx P q (.makeFunc f a b) d ⟨fr, H⟩ K = (vok P fr H (.makeFunc f a b) ∧ K ⟨put fr d (vop P fr H (.makeFunc f a b)), H⟩) := rfl
@[simp] theorem aEx_len {x : Operand} {t : TypeId} : aEx P q (.call { callee := .builtin .len, args := #[x], argTypes := #[t] }) d ⟨fr, H⟩ K =
    (vok P fr H (.call { callee := .builtin .len, args := #[x], argTypes := #[t] }) ∧ K ⟨put fr d (.int .i64 (lenV H (ev fr x))), H⟩) := rfl
@[simp] theorem aEx_max {x y : Operand} {ts : Array TypeId} : aEx P q (.call { callee := .builtin .max, args := #[x, y], argTypes := ts }) d ⟨fr, H⟩ K = ((okv fr x ∧ okv fr y ∧ mmOk (ev fr x) (ev fr y)) ∧ K ⟨put fr d (mmV true (ev fr x) (ev fr y)), H⟩) := rfl
@[simp] theorem aEx_min {x y : Operand} {ts : Array TypeId} : aEx P q (.call { callee := .builtin .min, args := #[x, y], argTypes := ts }) d ⟨fr, H⟩ K = ((okv fr x ∧ okv fr y ∧ mmOk (ev fr x) (ev fr y)) ∧ K ⟨put fr d (mmV false (ev fr x) (ev fr y)), H⟩) := rfl
@[simp] theorem aEx_alloc {t : TypeId} : aEx P q (.alloc t) d ⟨fr, H⟩ K = ∃ cs, zeroT P t = some cs ∧ cs.all oneC = true ∧ K ⟨put fr d (.pb H.length 0), H ++ [some (.box cs)]⟩ := rfl
@[simp] theorem aEx_box {t : TypeId} {x : Operand} : aEx P q (.box t x) d ⟨fr, H⟩ K = (okv fr x ∧ (flatV (ev fr x)).all oneC = true ∧ K ⟨put fr d (.pb H.length 0), H ++ [some (.box (flatV (ev fr x)))]⟩) := rfl
@[simp] theorem aEx_buildSlice {t : TypeId} {k : Nat} {ps : List (Nat × Operand)} : aEx P q (.buildSlice t k ps.toArray) d ⟨fr, H⟩ K =
    ∃ e, elemT P t = some e ∧ 0 < sizeT P e ∧ k = ps.length ∧ k * sizeT P e ≤ 16777216 ∧ (zeroT P e).isSome ∧ rowsOkV fr (sizeT P e) 0 ps ∧
      K (bif k == 0 then ⟨put fr d .nils, H⟩ else ⟨put fr d (.sf H.length (sizeT P e)), H ++ [some (.arr (sizeT P e) (rowsV fr ps))]⟩) := rfl
@[simp] theorem aEx_makeSlice {t : TypeId} {l c : Operand} : aEx P q (.makeSlice t l c) d ⟨fr, H⟩ K =
    ∃ e zs, elemT P t = some e ∧ 0 < sizeT P e ∧ zeroT P e = some zs ∧ zs.length = sizeT P e ∧ zs.all noOwnA = true ∧ zs.all oneC = true ∧ okv fr l ∧ okv fr c ∧ isInt (ev fr l) ∧ isInt (ev fr c) ∧
      0 ≤ intV (ev fr l) ∧ intV (ev fr l) ≤ intV (ev fr c) ∧ bytesT P e * intV (ev fr c) ≤ 140737488355328 ∧ intV (ev fr c) ≤ 9223372036854775807 ∧
      bif zs.any isNils then K ⟨put fr d (.sb H.length (sizeT P e) (intV (ev fr l)).toNat), H ++ [some (.box (List.replicate (intV (ev fr l)).toNat zs).flatten)]⟩ ∨ K ⟨put fr d (.sf H.length (sizeT P e)), H ++ [some (.arr (sizeT P e) (List.replicate (intV (ev fr l)).toNat zs))]⟩
      else K ⟨put fr d (.sf H.length (sizeT P e)), H ++ [some (.arr (sizeT P e) (List.replicate (intV (ev fr l)).toNat zs))]⟩ := rfl
@[simp] theorem aEx_store {t : TypeId} {a x : Operand} : aEx P q (.store t a x) d ⟨fr, H⟩ K = (okv fr a ∧ okv fr x ∧ storeX P t (ev fr a) (ev fr x) ⟨fr, H⟩ K) := rfl
@[simp] theorem aEx_call {y : Operand} {xs : List Operand} {ts : Array TypeId} : aEx P q (.call { callee := .value y, args := xs.toArray, argTypes := ts }) d ⟨fr, H⟩ K =
    (okv fr y ∧ okvs fr xs ∧ match ev fr y with
    | .fn f caps => CallX P q f (xs.map (ev fr) ++ caps) d ⟨fr, H⟩ K
    | _ => False) := rfl
@[simp] theorem aEx_append {s x : Operand} {t u : TypeId} : aEx P q (.call { callee := .builtin .append, args := #[s, x], argTypes := #[t, u] }) d ⟨fr, H⟩ K =
    (okv fr s ∧ okv fr x ∧ appendK P (kindT P u) q t u d (ev fr s) (ev fr x) ⟨fr, H⟩ K) := rfl
@[simp] theorem appendK_none {t u : TypeId} {s x : PV} {S : St} : appendK P none q t u d s x S K = (((elemT P u).isSome = true ∨ strT P u = true) ∧ appendX P q t d s x S K) := rfl
@[simp] theorem appendK_some {k j : IntKind} {t u : TypeId} {s : PV} {n : Int} {S : St} : appendK P (some k) q t u d s (.int j n) S K = appendN P q t d s n S K := rfl
@[simp] theorem aEx_copy {s x : Operand} {t u : TypeId} : aEx P q (.call { callee := .builtin .copy, args := #[s, x], argTypes := #[t, u] }) d ⟨fr, H⟩ K = (okv fr s ∧ okv fr x ∧ copyX P q t d (ev fr s) (ev fr x) ⟨fr, H⟩ K) := rfl
@[simp] theorem aEx_clear {s : Operand} {t : TypeId} : aEx P q (.call { callee := .builtin .clear, args := #[s], argTypes := #[t] }) d ⟨fr, H⟩ K = (okv fr s ∧ clearX P q t d (ev fr s) ⟨fr, H⟩ K) := rfl
@[simp] theorem aEx_cap {s : Operand} {t : TypeId} : aEx P q (.call { callee := .builtin .cap, args := #[s], argTypes := #[t] }) d ⟨fr, H⟩ K = (q = false ∧ okv fr s ∧ (elemT P t).isSome = true ∧ capX fr (ev fr s) fun C => K ⟨put fr d (.int .i64 C), H⟩) := rfl
@[simp] theorem capX_nils {L : Nat → Prop} : capX fr .nils L = L 0 := rfl
@[simp] theorem capX_sf {k z : Nat} {L : Nat → Prop} : capX fr (.sf k z) L = (match slot fr (capS k) with | .cp k' C => k' = k ∧ L C | _ => False) := rfl
@[simp] theorem capX_so {k z lo n : Nat} {L : Nat → Prop} : capX fr (.so k z lo n) L = (match slot fr (capS k) with | .cp k' C => k' = k ∧ lo = 0 ∧ L C | _ => False) := rfl
@[simp] theorem aGd_move {c : Bool} {x : Operand} : aGd P q c (.move x) d ⟨fr, H⟩ K = ((c = true → vok P fr H (.move x)) ∧ K ⟨put fr d (.opt c (vop P fr H (.move x))), H⟩) := rfl
@[simp] theorem aGd_nilCheck {c : Bool} {x : Operand} : aGd P q c (.nilCheck x) d ⟨fr, H⟩ K = ((c = true → vok P fr H (.nilCheck x)) ∧ K ⟨put fr d (.opt c (vop P fr H (.nilCheck x))), H⟩) := rfl
@[simp] theorem aGd_pick {c : Bool} {c0 a b : Operand} : aGd P q c (.pick c0 a b) d ⟨fr, H⟩ K = ((c = true → vok P fr H (.pick c0 a b)) ∧ K ⟨put fr d (.opt c (vop P fr H (.pick c0 a b))), H⟩) := rfl
@[simp] theorem aGd_binOp {c : Bool} {op : BinOp} {t u : TypeId} {x y : Operand} : aGd P q c (.binOp op t x y u) d ⟨fr, H⟩ K = ((c = true → vok P fr H (.binOp op t x y u)) ∧ K ⟨put fr d (.opt c (vop P fr H (.binOp op t x y u))), H⟩) := rfl
@[simp] theorem aGd_unOp {c : Bool} {op : UnOp} {t : TypeId} {x : Operand} : aGd P q c (.unOp op t x) d ⟨fr, H⟩ K = ((c = true → vok P fr H (.unOp op t x)) ∧ K ⟨put fr d (.opt c (vop P fr H (.unOp op t x))), H⟩) := rfl
@[simp] theorem aGd_convert {c : Bool} {s t : TypeId} {x : Operand} : aGd P q c (.convert s t x) d ⟨fr, H⟩ K = convG P c s t x (ev fr x) (elemT P t) d ⟨fr, H⟩ K := rfl
@[simp] theorem convG_bytes {c : Bool} {s t e : TypeId} {x : Operand} {l : List UInt8} : convG P c s t x (.str l) (some e) d ⟨fr, H⟩ K = ((c = true → okv fr x ∧ strT P s = true ∧ kindT P e = some .u8) ∧ K ⟨put fr d (.opt c (.sl 1 (bytesV l))), H⟩) := rfl
@[simp] theorem convG_str {c : Bool} {s t : TypeId} {x : Operand} {l : List UInt8} : convG P c s t x (.str l) none d ⟨fr, H⟩ K = ((c = true → vok P fr H (.convert s t x)) ∧ K ⟨put fr d (.opt c (vop P fr H (.convert s t x))), H⟩) := rfl
@[simp] theorem aGd_load {c : Bool} {t : TypeId} {x : Operand} : aGd P q c (.load t x) d ⟨fr, H⟩ K = ((c = true → vok P fr H (.load t x)) ∧ K ⟨put fr d (.opt c (vop P fr H (.load t x))), H⟩) := rfl
@[simp] theorem aGd_fieldAddr {c : Bool} {t : TypeId} {x : Operand} {f : Nat} : aGd P q c (.fieldAddr t x f) d ⟨fr, H⟩ K = ((c = true → vok P fr H (.fieldAddr t x f)) ∧ K ⟨put fr d (.opt c (vop P fr H (.fieldAddr t x f))), H⟩) := rfl
@[simp] theorem aGd_field {c : Bool} {t : TypeId} {x : Operand} {f : Nat} : aGd P q c (.field t x f) d ⟨fr, H⟩ K = ((c = true → vok P fr H (.field t x f)) ∧ K ⟨put fr d (.opt c (vop P fr H (.field t x f))), H⟩) := rfl
@[simp] theorem aGd_indexAddr {c : Bool} {t : TypeId} {x i : Operand} : aGd P q c (.indexAddr t x i) d ⟨fr, H⟩ K = ((c = true → vok P fr H (.indexAddr t x i)) ∧ K ⟨put fr d (.opt c (vop P fr H (.indexAddr t x i))), H⟩) := rfl
@[simp] theorem aGd_index {c : Bool} {t : TypeId} {x i : Operand} : aGd P q c (.index t x i) d ⟨fr, H⟩ K = ((c = true → vok P fr H (.index t x i)) ∧ K ⟨put fr d (.opt c (vop P fr H (.index t x i))), H⟩) := rfl
@[simp] theorem aGd_slice {c : Bool} {t : TypeId} {x : Operand} {l h m : Option Operand} : aGd P q c (.slice t x l h m) d ⟨fr, H⟩ K = ((c = true → vok P fr H (.slice t x l h m)) ∧ K ⟨put fr d (.opt c (vop P fr H (.slice t x l h m))), H⟩) := rfl
@[simp] theorem aGd_extract {c : Bool} {x : Operand} {i : Nat} : aGd P q c (.extract x i) d ⟨fr, H⟩ K = ((c = true → vok P fr H (.extract x i)) ∧ K ⟨put fr d (.opt c (vop P fr H (.extract x i))), H⟩) := rfl
@[simp] theorem aGd_build {c : Bool} {t : TypeId} {ps : Array (Nat × Operand)} : aGd P q c (.build t ps) d ⟨fr, H⟩ K = ((c = true → vok P fr H (.build t ps)) ∧ K ⟨put fr d (.opt c (vop P fr H (.build t ps))), H⟩) := rfl
@[simp] theorem aGd_makeFunc {c : Bool} {f : Fn} {a b : Array Operand} : aGd P q c (.makeFunc f a b) d ⟨fr, H⟩ K = ((c = true → vok P fr H (.makeFunc f a b)) ∧ K ⟨put fr d (.opt c (vop P fr H (.makeFunc f a b))), H⟩) := rfl
@[simp] theorem aGd_len {c : Bool} {x : Operand} {t : TypeId} : aGd P q c (.call { callee := .builtin .len, args := #[x], argTypes := #[t] }) d ⟨fr, H⟩ K =
    ((c = true → vok P fr H (.call { callee := .builtin .len, args := #[x], argTypes := #[t] })) ∧ K ⟨put fr d (.opt c (.int .i64 (lenV H (ev fr x)))), H⟩) := rfl
@[simp] theorem aGd_call {c : Bool} {y : Operand} {xs : List Operand} {ts : Array TypeId} : aGd P q c (.call { callee := .value y, args := xs.toArray, argTypes := ts }) d ⟨fr, H⟩ K =
    ((c = true → okv fr y ∧ okvs fr xs) ∧ match ev fr y with
    | .fn f caps => CallG P q f (xs.map (ev fr) ++ caps) c d ⟨fr, H⟩ K
    | _ => False) := rfl

/-! ### What the quiet operations yield, equation by equation -/
@[simp] theorem vop_move {x : Operand} : vop P fr H (.move x) = ev fr x := rfl
@[simp] theorem vok_move {x : Operand} : vok P fr H (.move x) = okv fr x := rfl
@[simp] theorem vop_nilCheck {x : Operand} : vop P fr H (.nilCheck x) = ev fr x := rfl
@[simp] theorem vok_nilCheck {x : Operand} : vok P fr H (.nilCheck x) = (okv fr x ∧ isPtr (ev fr x)) := rfl
@[simp] theorem vop_assign {x : Operand} : vop P fr H (.assign x) = ev fr x := rfl
@[simp] theorem vok_assign {x : Operand} : vok P fr H (.assign x) = okv fr x := rfl
@[simp] theorem vop_pick {c a b : Operand} : vop P fr H (.pick c a b) = (match ev fr c with | .bool t => pickV t (ev fr a) (ev fr b) | _ => .top) := rfl
@[simp] theorem vok_pick {c a b : Operand} : vok P fr H (.pick c a b) = (okv fr c ∧ match ev fr c with | .bool t => (t = true → okv fr a) ∧ (t = false → okv fr b) | _ => False) := rfl
@[simp] theorem vop_binOp {op : BinOp} {t u : TypeId} {x y : Operand} : vop P fr H (.binOp op t x y u) = bv op (ev fr x) (ev fr y) := rfl
@[simp] theorem vok_binOp {op : BinOp} {t u : TypeId} {x y : Operand} : vok P fr H (.binOp op t x y u) = (okv fr x ∧ okv fr y ∧ bk P t op (ev fr x) (ev fr y)) := rfl
@[simp] theorem vop_unOp {op : UnOp} {t : TypeId} {x : Operand} : vop P fr H (.unOp op t x) = uv op (ev fr x) := rfl
@[simp] theorem vok_unOp {op : UnOp} {t : TypeId} {x : Operand} : vok P fr H (.unOp op t x) = (okv fr x ∧ uk op (ev fr x)) := rfl
@[simp] theorem vop_convert {s t : TypeId} {x : Operand} : vop P fr H (.convert s t x) = (match ev fr x, kindT P t with | .int _ n, some k => .int k (k.wrap n) | .str s, _ => .str s | _, _ => .top) := rfl
@[simp] theorem vok_convert {s t : TypeId} {x : Operand} : vok P fr H (.convert s t x) = (okv fr x ∧ match ev fr x with | .int _ _ => knownT P s = true ∧ (kindT P t).isSome | .str _ => strT P s ∧ strT P t | _ => False) := rfl
@[simp] theorem vop_load {t : TypeId} {x : Operand} : vop P fr H (.load t x) = loadV H (aggT P t) (sizeT P t) (ev fr x) := rfl
@[simp] theorem vok_load {t : TypeId} {x : Operand} : vok P fr H (.load t x) = (okv fr x ∧ knownT P t = true ∧ 0 < sizeT P t ∧ loadOk H (sizeT P t) (ev fr x)) := rfl
@[simp] theorem vop_fieldAddr {t : TypeId} {x : Operand} {f : Nat} : vop P fr H (.fieldAddr t x f) = offV (((fldT P t f).map (·.1)).getD 0) (ev fr x) := rfl
@[simp] theorem vok_fieldAddr {t : TypeId} {x : Operand} {f : Nat} : vok P fr H (.fieldAddr t x f) = (okv fr x ∧ (∃ o a n, fldT P t f = some (o, a, n + 1)) ∧ isPtr (ev fr x)) := rfl
@[simp] theorem vop_field {t : TypeId} {x : Operand} {f : Nat} : vop P fr H (.field t x f) = (match fldT P t f, ev fr x with | some (o, a, n), .agg cs => takeT a n cs o | _, _ => .top) := rfl
@[simp] theorem vok_field {t : TypeId} {x : Operand} {f : Nat} : vok P fr H (.field t x f) = (okv fr x ∧ ∃ o a n cs, fldT P t f = some (o, a, n + 1) ∧ ev fr x = .agg cs ∧ o + n < cs.length) := rfl
@[simp] theorem vop_indexAddr {t : TypeId} {x i : Operand} : vop P fr H (.indexAddr t x i) = idxA (elemT P t) (arrT P t) (sizeT P) (ev fr x) (intV (ev fr i)) := rfl
@[simp] theorem vok_indexAddr {t : TypeId} {x i : Operand} : vok P fr H (.indexAddr t x i) = (okv fr x ∧ okv fr i ∧ isInt (ev fr i) ∧ idxAOk H (elemT P t) (arrT P t) (sizeT P) (ev fr x) (intV (ev fr i))) := rfl
@[simp] theorem idxA_some {e : TypeId} {ao : Option (Nat × TypeId)} {sz : TypeId → Nat} {p : PV} {i : Int} : idxA (some e) ao sz p i = idxV (sz e) p i := rfl
@[simp] theorem idxA_arr {n e : TypeId} {sz : TypeId → Nat} {p : PV} {i : Int} : idxA none (some (n, e)) sz p i = offV (i.toNat * sz e) p := rfl
@[simp] theorem idxAOk_some {e : TypeId} {ao : Option (Nat × TypeId)} {sz : TypeId → Nat} {p : PV} {i : Int} : idxAOk H (some e) ao sz p i = (0 < sz e ∧ idxOk H (sz e) p i) := rfl
@[simp] theorem idxAOk_arr {n e : TypeId} {sz : TypeId → Nat} {p : PV} {i : Int} : idxAOk H none (some (n, e)) sz p i = (0 < sz e ∧ isPtr p ∧ 0 ≤ i ∧ i < n) := rfl
@[simp] theorem vop_index {t : TypeId} {x i : Operand} : vop P fr H (.index t x i) = (match ev fr x with | .str s => .int .u8 ((s.getD (intV (ev fr i)).toNat 0).toNat) | _ => .top) := rfl
@[simp] theorem vok_index {t : TypeId} {x i : Operand} : vok P fr H (.index t x i) = (okv fr x ∧ okv fr i ∧ isInt (ev fr i) ∧ strT P t ∧ match ev fr x with | .str s => 0 ≤ intV (ev fr i) ∧ intV (ev fr i) < s.length | _ => False) := rfl
@[simp] theorem vop_slice {t : TypeId} {x : Operand} {l h : Option Operand} : vop P fr H (.slice t x l h none) = cutV (bound fr 0 l) (bound fr (lenV H (ev fr x)) h) (ev fr x) := rfl
@[simp] theorem vop_slice3 {t : TypeId} {x m : Operand} {l h : Option Operand} : vop P fr H (.slice t x l h (some m)) = .top := rfl
@[simp] theorem vok_slice {t : TypeId} {x : Operand} {l h : Option Operand} : vok P fr H (.slice t x l h none) = (okv fr x ∧ boundOk fr l ∧ boundOk fr h ∧ True ∧ (false = true → h.isSome = true) ∧ lenOk H (ev fr x) ∧
    bound fr 0 l ≤ bound fr (lenV H (ev fr x)) h ∧ bound fr (lenV H (ev fr x)) h ≤ roomV H (ev fr x) ∧ roomV H (ev fr x) ≤ roomV H (ev fr x) ∧
    match ev fr x with | .str _ => strT P t ∧ false = false | .sl z _ | .sf _ z | .so _ z _ _ => ∃ e, elemT P t = some e ∧ sizeT P e = z ∧ 0 < z | .nils => ∃ e, elemT P t = some e ∧ 0 < sizeT P e | _ => False) := rfl
@[simp] theorem vok_slice3 {t : TypeId} {x m : Operand} {l h : Option Operand} : vok P fr H (.slice t x l h (some m)) = (okv fr x ∧ boundOk fr l ∧ boundOk fr h ∧ boundOk fr (some m) ∧ (true = true → h.isSome = true) ∧ lenOk H (ev fr x) ∧
    bound fr 0 l ≤ bound fr (lenV H (ev fr x)) h ∧ bound fr (lenV H (ev fr x)) h ≤ bound fr (roomV H (ev fr x)) (some m) ∧ bound fr (roomV H (ev fr x)) (some m) ≤ roomV H (ev fr x) ∧
    match ev fr x with | .str _ => strT P t ∧ true = false | .sl z _ | .sf _ z | .so _ z _ _ => ∃ e, elemT P t = some e ∧ sizeT P e = z ∧ 0 < z | .nils => ∃ e, elemT P t = some e ∧ 0 < sizeT P e | _ => False) := rfl
@[simp] theorem vop_extract {x : Operand} {i : Nat} : vop P fr H (.extract x i) = (match ev fr x with | .tup vs => vs.getD i .top | _ => .top) := rfl
@[simp] theorem vok_extract {x : Operand} {i : Nat} : vok P fr H (.extract x i) = (okv fr x ∧ match ev fr x with | .tup vs => i < vs.length | _ => False) := rfl
@[simp] theorem vop_build {t : TypeId} {ps : List (Nat × Operand)} : vop P fr H (.build t ps.toArray) = .agg (buildV P fr t ps ((zeroT P t).getD [])) := rfl
@[simp] theorem vok_build {t : TypeId} {ps : List (Nat × Operand)} : vok P fr H (.build t ps.toArray) = (∃ cs, zeroT P t = some cs ∧ cs.all oneC = true ∧ structT P t = true ∧ buildOk P fr t cs.length ps) := rfl
@[simp] theorem vop_makeFunc {f : FuncId} {a : Array Operand} {cs : List Operand} : vop P fr H (.makeFunc (.func f) a cs.toArray) = .fn f (cs.map (ev fr)) := rfl
@[simp] theorem vok_makeFunc {f : FuncId} {a : Array Operand} {cs : List Operand} : vok P fr H (.makeFunc (.func f) a cs.toArray) = (a = #[] ∧ okvs fr cs) := rfl
@[simp] theorem vop_len {x : Operand} {t : TypeId} : vop P fr H (.call { callee := .builtin .len, args := #[x], argTypes := #[t] }) = .int .i64 (lenV H (ev fr x)) := rfl
@[simp] theorem vok_len {x : Operand} {t : TypeId} : vok P fr H (.call { callee := .builtin .len, args := #[x], argTypes := #[t] }) = (okv fr x ∧ lenOk H (ev fr x) ∧ match ev fr x with
    | .str _ => strT P t = true
    | _ => (elemT P t).isSome = true) := rfl
end eqs
attribute [simp] isNils cvS immM boxOkM mmV mmOk kindC bv bk uv uk lenV roomV lenOk idxV idxOk loadV loadOk offV isPtr intV isInt cutV bound boundOk buildV buildOk takeT putAt rowsO boxO isArr isBox cellEq cellsEq cellCmp cellsCmp immA immB imm boxOkA boxOk noOwnA noOwn flatC flatA flatB flatP flatO arrO shiftA shiftB shift whole wholeA wholeB scrubC scrubA scrubV scrubF scrubO srcRows srcOk rowsV rowsOkV appendX appendN isSl copyAt copyX clearX capS effS storeX oneC
@[simp] theorem isCv_top : isCv .top = false := rfl
@[simp] theorem isCv_ef {f : Nat} : isCv (.ef f) = true := rfl
@[congr] theorem conv1_congr {o o' : Option IntKind} {n n' : Int} {L : PV → Prop} (h : o = o') (hn : n = n') : conv1 o n L = conv1 o' n' L := by rw [h, hn]
@[congr] theorem conv2_congr {P : Program} {t : TypeId} {o o' : Option TypeId} {l l' : List UInt8} {cv : Bool} {L : PV → Prop} {LO : List PV → Prop} (h : o = o') (hl : l = l') : conv2 P t o l cv L LO = conv2 P t o' l' cv L LO := by rw [h, hl]
@[simp] theorem convX_int {P : Program} {s t : TypeId} {k : IntKind} {n : Int} {H : Heap} {cv : Bool} {L : PV → Prop} {LO : List PV → Prop} : convX P s t (.int k n) H cv L LO = (knownT P s = true ∧ conv1 (kindT P t) n L) := rfl
@[simp] theorem convX_str {P : Program} {s t : TypeId} {l : List UInt8} {H : Heap} {cv : Bool} {L : PV → Prop} {LO : List PV → Prop} : convX P s t (.str l) H cv L LO = (strT P s = true ∧ conv2 P t (elemT P t) l cv L LO) := rfl
@[simp] theorem conv1_some {k : IntKind} {n : Int} {L : PV → Prop} : conv1 (some k) n L = L (.int k (k.wrap n)) := rfl
@[simp] theorem conv2_some {P : Program} {t e : TypeId} {l : List UInt8} {cv : Bool} {L : PV → Prop} {LO : List PV → Prop} : conv2 P t (some e) l cv L LO = (kindT P e = some .u8 ∧ bif cv then LO (l.map fun b => .int .u8 b.toNat) else L (.sl 1 (bytesV l))) := rfl
@[simp] theorem conv2_none {P : Program} {t : TypeId} {l : List UInt8} {cv : Bool} {L : PV → Prop} {LO : List PV → Prop} : conv2 P t none l cv L LO = (strT P t = true ∧ L (.str l)) := rfl
@[simp] theorem convX_nils {P : Program} {s t : TypeId} {H : Heap} {cv : Bool} {L : PV → Prop} {LO : List PV → Prop} : convX P s t .nils H cv L LO = ((∃ e, elemT P s = some e ∧ kindT P e = some .u8) ∧ strT P t = true ∧ srcOk H 1 .nils ∧ (∀ r ∈ srcRows H .nils, byteC r = true) ∧ L (.str ((srcRows H .nils).map byteV))) := rfl
@[simp] theorem convX_sl {P : Program} {s t : TypeId} {z : Nat} {rows : List (List PV)} {H : Heap} {cv : Bool} {L : PV → Prop} {LO : List PV → Prop} : convX P s t (.sl z rows) H cv L LO = ((∃ e, elemT P s = some e ∧ kindT P e = some .u8) ∧ strT P t = true ∧ srcOk H 1 (.sl z rows) ∧ (∀ r ∈ srcRows H (.sl z rows), byteC r = true) ∧ L (.str ((srcRows H (.sl z rows)).map byteV))) := rfl
@[simp] theorem convX_sf {P : Program} {s t : TypeId} {z k : Nat} {H : Heap} {cv : Bool} {L : PV → Prop} {LO : List PV → Prop} : convX P s t (.sf k z) H cv L LO = ((∃ e, elemT P s = some e ∧ kindT P e = some .u8) ∧ strT P t = true ∧ srcOk H 1 (.sf k z) ∧ (∀ r ∈ srcRows H (.sf k z), byteC r = true) ∧ L (.str ((srcRows H (.sf k z)).map byteV))) := rfl
@[simp] theorem convX_so {P : Program} {s t : TypeId} {z k lo n : Nat} {H : Heap} {cv : Bool} {L : PV → Prop} {LO : List PV → Prop} : convX P s t (.so k z lo n) H cv L LO = ((∃ e, elemT P s = some e ∧ kindT P e = some .u8) ∧ strT P t = true ∧ srcOk H 1 (.so k z lo n) ∧ (∀ r ∈ srcRows H (.so k z lo n), byteC r = true) ∧ L (.str ((srcRows H (.so k z lo n)).map byteV))) := rfl
@[simp] theorem convX_sb {P : Program} {s t : TypeId} {z k n : Nat} {H : Heap} {cv : Bool} {L : PV → Prop} {LO : List PV → Prop} : convX P s t (.sb k z n) H cv L LO = ((∃ e, elemT P s = some e ∧ kindT P e = some .u8) ∧ strT P t = true ∧ srcOk H 1 (.sb k z n) ∧ (∀ r ∈ srcRows H (.sb k z n), byteC r = true) ∧ L (.str ((srcRows H (.sb k z n)).map byteV))) := rfl
@[simp] theorem byteC_one {n : Int} : byteC [.int .u8 n] = (decide (0 ≤ n) && decide (n < 256)) := rfl
@[simp] theorem byteV_one {k : IntKind} {n : Int} : byteV [.int k n] = UInt8.ofNat n.toNat := rfl
@[simp] theorem isEff_store {all : List Oper} {t : TypeId} {a x : Operand} : isEff all (.store t a x) = true := rfl
@[simp] theorem isEff_append {all : List Oper} {s : Operand} {r : List Operand} {ts : Array TypeId} : isEff all (.call { callee := .builtin .append, args := (s :: r).toArray, argTypes := ts }) = !nilText all s := rfl
@[simp] theorem isEff_copy {all : List Oper} {as : Array Operand} {ts : Array TypeId} : isEff all (.call { callee := .builtin .copy, args := as, argTypes := ts }) = true := rfl
@[simp] theorem isEff_clear {all : List Oper} {as : Array Operand} {ts : Array TypeId} : isEff all (.call { callee := .builtin .clear, args := as, argTypes := ts }) = true := rfl
@[simp] theorem isEff_cap {all : List Oper} {as : Array Operand} {ts : Array TypeId} : isEff all (.call { callee := .builtin .cap, args := as, argTypes := ts }) = false := rfl
@[simp] theorem isEff_len {all : List Oper} {as : Array Operand} {ts : Array TypeId} : isEff all (.call { callee := .builtin .len, args := as, argTypes := ts }) = false := rfl
@[simp] theorem isEff_value {all : List Oper} {y : Operand} {as : Array Operand} {ts : Array TypeId} : isEff all (.call { callee := .value y, args := as, argTypes := ts }) = false := rfl
@[simp] theorem isEff_move {all : List Oper} {x} : isEff all (.move x) = false := rfl
@[simp] theorem isEff_assign {all : List Oper} {x} : isEff all (.assign x) = false := rfl
@[simp] theorem isEff_nilCheck {all : List Oper} {x} : isEff all (.nilCheck x) = false := rfl
@[simp] theorem isEff_pick {all : List Oper} {a b c} : isEff all (.pick a b c) = false := rfl
@[simp] theorem isEff_binOp {all : List Oper} {o t a b u} : isEff all (.binOp o t a b u) = false := rfl
@[simp] theorem isEff_unOp {all : List Oper} {o t a} : isEff all (.unOp o t a) = false := rfl
@[simp] theorem isEff_convert {all : List Oper} {s t a} : isEff all (.convert s t a) = false := rfl
@[simp] theorem isEff_load {all : List Oper} {t a} : isEff all (.load t a) = false := rfl
@[simp] theorem isEff_fieldAddr {all : List Oper} {t a f} : isEff all (.fieldAddr t a f) = false := rfl
@[simp] theorem isEff_field {all : List Oper} {t a f} : isEff all (.field t a f) = false := rfl
@[simp] theorem isEff_indexAddr {all : List Oper} {t a i} : isEff all (.indexAddr t a i) = false := rfl
@[simp] theorem isEff_index {all : List Oper} {t a i} : isEff all (.index t a i) = false := rfl
@[simp] theorem isEff_slice {all : List Oper} {t a l h m} : isEff all (.slice t a l h m) = false := rfl
@[simp] theorem isEff_extract {all : List Oper} {a i} : isEff all (.extract a i) = false := rfl
@[simp] theorem isEff_build {all : List Oper} {t ps} : isEff all (.build t ps) = false := rfl
@[simp] theorem isEff_makeFunc {all : List Oper} {f a b} : isEff all (.makeFunc f a b) = false := rfl
@[simp] theorem isEff_alloc {all : List Oper} {t} : isEff all (.alloc t) = false := rfl
@[simp] theorem isEff_box {all : List Oper} {t a} : isEff all (.box t a) = false := rfl
@[simp] theorem isEff_buildSlice {all : List Oper} {t n ps} : isEff all (.buildSlice t n ps) = false := rfl
@[simp] theorem isEff_makeSlice {all : List Oper} {t l c} : isEff all (.makeSlice t l c) = false := rfl
@[simp] theorem pickV_bool {c a b : Bool} : pickV c (.bool a) (.bool b) = .bool (bif c then a else b) := rfl
@[simp] theorem pickV_false {p q : PV} : pickV false p q = q := by unfold pickV; split <;> rfl
@[simp] theorem pickV_true {p q : PV} : pickV true p q = p := by unfold pickV; split <;> rfl
end Go.Ab
