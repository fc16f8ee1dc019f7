/- A region with a call that is answered by hand. No condition. Contracts: copies of melts, bells, beams, keys and tunes whose inner lists are one's own. No condition. -/
import Derived.Test.YteckngloamnfdaaGreatDoorBr
import Derived.Test.YteckngloamnfdaaGreatDoorTNest
namespace Go.Ab
variable {P:Program} {A A':Nat→Prop} {m m':OMap} {w w':World} {H:Heap} {fr:Fr} {a:Act} {x:Ctx} {n:Nat}
theorem qcz {M : Nat → Prop} {gh : Nat → Value} {f : FuncId} {fn : Func} {c : Code} {args : List PV} (hf : P.funcs[f]? = some fn) (hname : (fn.name == "runtime.NumGoroutine") = false) (hb : fn.body = some c) (hok : fn.results.toList.all (resLt fn.ntmps) = true) (hn0 : Nat.ble args.length fn.ntmps = true)
  {vs:Array Value} (hA:AOk A w) (hvs:vs.size=args.length) (hargs:∀i p,args[i]?=some p→RepI A w p (vs.getD i undef)) {R:Value→World→Prop}
  (h:∀a,Inv ⟨w,A,M,gh⟩ fn.ntmps ⟨argFr 0 args,[]⟩ a w A noM→c.wp P (fun e a' w'=>(e = .normal∨e = .ret)∧∃S' A' m',Inv ⟨w,A,M,gh⟩ fn.ntmps S' a' w' A' m'∧qaL P S' fn.results.toList∧∀v,RepO A' m' (getO S'.H) w' (retV P S' fn.results.toList) v→R v w') a w) :
  CallS P f vs w fun e w'=>∃v,e = .returned v∧R v w':=by
 have hn:=Nat.le_of_ble_eq_true hn0
 have hname' : fn.name ≠ "runtime.NumGoroutine" := by simpa using hname
 have hcall:(callFunc f vs).run P w = .ok (.enter f vs) w:=by simp[callFunc,hf,hname',hb]
 unfold CallS
 rw[hcall]
 refine⟨rfl,calls_of_wp hf hb ?_⟩
 have hI:Inv ⟨w,A,M,gh⟩ fn.ntmps ⟨argFr 0 args,[]⟩ { tmps:=vs++Array.replicate (fn.ntmps-vs.size) undef,defers:=[] } w A noM:=by
  refine⟨.refl _ _,fun b hb => .inl hb,hA,⟨fun k o hk=>by simp[getO]at hk,fun k k' o o' b C C' hk=>by simp[getO]at hk⟩,fun b ⟨k,o,C,hk,_⟩=>by simp[getO]at hk,fun t =>?_,by simp; omega,rfl⟩
  rw[qe8,if_pos (Nat.zero_le _),Nat.sub_zero]
  cases ht:args[t]? with
  | none =>
   rw[List.getD_eq_getElem?_getD,ht]
   exact .topI _
  | some p =>
   have hlt:t<vs.size:=by rw[hvs]; exact (List.getElem?_eq_some_iff.1 ht).1
   have:=hargs t p ht
   rw[List.getD_eq_getElem?_getD,ht,qb3 (by omega)]
   refine .imm ?_
   simpa[Array.getD_eq_getD_getElem?,Array.getElem?_append,hlt]using this
 refine wp_mono (h _ hI) fun e a' w' ⟨he,S',A',m',hI',hr,hR⟩ =>?_
 have fin:a'.defers=[]∧∃v,(results fn a'.tmps).run P w' = .ok v w'∧∃v',Ending.returned v=Ending.returned v'∧R v' w':=by
  obtain⟨v,hv,hrep⟩:=qjk (P:=P) hI'.conc rfl hI'.opnd rfl hok hr
  exact⟨hI'.df,v,hv,v,rfl,hR v hrep⟩
 rcases he with rfl | rfl<;>exact fin
end Go.Ab
namespace Go.Proofs.YteckngloamnfdaaGreatDoor
open Go Go.Ab
set_option maxRecDepth 100000
theorem qrs (l:List (List UInt8)) (hl:l.length≤1048576):HFn Tryz.prog 213 [.sl 1 (qae l)] [] (.sf 0 1) [some (.arr 1 (qae l))]:=by
 refine qaa hm Tryz.func213 (by kernel_rfl) rfl (by kernel_rfl) rfl (fun _ _ h=>h) ?_
 simp[qae]
 refine⟨by omega,by omega,?_⟩
 refine qac hm l.length (fun i=>⟨[(0, .sl 1 (qae l)),(3, .sf 0 1),(4, .int .i64 i)],[some (.arr 1 ((l.take i).map (fun s=>[PV.str s])++List.replicate (l.length-i) [.str []]))]⟩) (fun _=>True) (by kernel_rfl) ?_ trivial (fun i hi _ =>?_) (fun _ =>?_)
 ·exact Wk.weak (ρ:=[0]) (φ:=[]) (by simp[qae])
 ·obtain⟨X,hX,hXl,hXg⟩:=qbk (fun s=>[PV.str s]) l [.str []] hi
  rw[hX]
  have ea:=List.getElem?_eq_getElem hi
  simp[qae,hi,hXl,hXg]
  refine Wk.weak (ρ:=[0]) (φ:=[]) ?_
  simp
  rw[w64 (by omega) (by omega),←hX]
  exact⟨rfl,qbC (fun s=>[PV.str s]) l [.str []] hi⟩
 ·simp[qae]
  exact Wk.weak (ρ:=[0]) (φ:=[]) (by simp)
theorem qrt (x:Melt) (h:x.sz≤1048576):HFn Tryz.prog 127 [.agg x.cells] [] (.agg [.str x.id, .sf 0 1, .int .i64 x.mass]) [some (.arr 1 (qae x.ingots))]:=by
 unfold Melt.sz at h
 refine qaa hm Tryz.func127 (by kernel_rfl) rfl (by kernel_rfl) rfl (fun _ _ h=>h) ?_
 simp[Melt.cells]
 have k1:=qrs x.ingots (by unfold qc4 at h; omega)
 refine CallZ.use k1 rfl (.inr ⟨qd7 _,trivial⟩) rfl rfl ?_
 simp
 exact Wk.weak (ρ:=[3]) (φ:=[]) (by simp)
theorem qru (x:Bell) (h:x.sz≤1048576):HFn Tryz.prog 128 [.agg x.cells] [] (.agg [.str x.id, .int .i64 x.note, .int .i64 x.mass, .int .i64 x.feed, .sf 0 2]) [some (.arr 2 (Share.rows x.shares))]:=by
 unfold Bell.sz at h
 refine qaa hm Tryz.func128 (by kernel_rfl) rfl (by kernel_rfl) rfl (fun _ _ h=>h) ?_
 simp[Bell.cells]
 have k1:=qjO x.shares (by unfold Share.szS at h; omega)
 refine CallZ.use k1 rfl (.inr ⟨Share.flat _,trivial⟩) rfl rfl ?_
 simp
 exact Wk.weak (ρ:=[3]) (φ:=[]) (by simp)
theorem qrv (x:Beam) (h:x.sz≤1048576):HFn Tryz.prog 131 [.agg x.cells] [] (.agg [.str x.name, .int .i64 x.span, .int .i64 x.width, .int .i64 x.depth, .int .i64 x.wood, .sf 0 2]) [some (.arr 2 (Load.rows x.loads))]:=by
 unfold Beam.sz at h
 refine qaa hm Tryz.func131 (by kernel_rfl) rfl (by kernel_rfl) rfl (fun _ _ h=>h) ?_
 simp[Beam.cells]
 have k1:=qjP x.loads (by unfold Load.szS at h; omega)
 refine CallZ.use k1 rfl (.inr ⟨Load.flat _,trivial⟩) rfl rfl ?_
 simp
 exact Wk.weak (ρ:=[3]) (φ:=[]) (by simp)
theorem qrw (x:Action) (h:x.sz≤1048576):HFn Tryz.prog 132 [.agg x.cells] [] (.agg [.int .i64 x.note, .sf 0 2, .int .i64 x.slack, .int .i64 x.weight]) [some (.arr 2 (Lever.rows x.levers))]:=by
 unfold Action.sz at h
 refine qaa hm Tryz.func132 (by kernel_rfl) rfl (by kernel_rfl) rfl (fun _ _ h=>h) ?_
 simp[Action.cells]
 have k1:=qjQ x.levers (by unfold Lever.szS at h; omega)
 refine CallZ.use k1 rfl (.inr ⟨Lever.flat _,trivial⟩) rfl rfl ?_
 simp
 exact Wk.weak (ρ:=[3]) (φ:=[]) (by simp)
theorem qrx (x:Tune) (h:x.sz≤1048576):HFn Tryz.prog 67 [.agg x.cells] [] (.agg [.str x.name, .sf 0 3]) [some (.arr 3 (Tone.rows x.tones))]:=by
 unfold Tune.sz at h
 refine qaa hm Tryz.func67 (by kernel_rfl) rfl (by kernel_rfl) rfl (fun _ _ h=>h) ?_
 simp[Tune.cells]
 have k1:=qjR x.tones (by unfold Tone.szS at h; omega)
 refine CallZ.use k1 rfl (.inr ⟨Tone.flat _,trivial⟩) rfl rfl ?_
 simp
 exact Wk.weak (ρ:=[3]) (φ:=[]) (by simp)
end Go.Proofs.YteckngloamnfdaaGreatDoor
