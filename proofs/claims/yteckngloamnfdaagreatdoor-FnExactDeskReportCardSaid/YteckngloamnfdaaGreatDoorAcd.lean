/- Facts on types, each out of the type's row. No condition. -/
import Derived.Test.YteckngloamnfdaaGreatDoorKb
import Derived.Laws.StructEq
namespace Go.Ab
variable {P:Program} {t:TypeId} {i:TypeInfo} {b:Nat}
abbrev TyOne (P:Program) (t:TypeId) (b:Nat) (k:Option IntKind) (e:Option TypeId) (s:Bool):Prop :=
 qaS P t=true∧aggT P t=false∧sizeT P t=1∧qay P t=b∧kindT P t=k∧elemT P t=e∧strT P t=s
abbrev TyZ (P:Program) (t:TypeId) (cs:List PV):Prop:=zokT P t=true∧zeroT P t=some cs
abbrev TyAgg (P:Program) (t:TypeId) (n b:Nat):Prop:=qaS P t=true∧aggT P t=true∧sizeT P t=n∧qay P t=b∧elemT P t=none∧strT P t=false∧kindT P t=none
theorem qcF {k:IntKind} (hi:P.info? t=some i) (hu:P.underlying t=some (.int k)) (h1:i.size=1) (h2:i.bytes=b):TyOne P t b (some k) none false:=by
 refine⟨?_,?_,?_,?_,?_,?_,?_⟩<;>simp[qaS,aggT,sizeT,qay,kindT,elemT,strT,hi,hu,h1,h2]
theorem qhf (hi:P.info? t=some i) (hu:P.underlying t=some .string) (h1:i.size=1) (h2:i.bytes=b):TyOne P t b none none true:=by
 refine⟨?_,?_,?_,?_,?_,?_,?_⟩<;>simp[qaS,aggT,sizeT,qay,kindT,elemT,strT,hi,hu,h1,h2]
theorem qns (hi:P.info? t=some i) (hu:P.underlying t=some .bool) (h1:i.size=1) (h2:i.bytes=b):TyOne P t b none none false:=by
 refine⟨?_,?_,?_,?_,?_,?_,?_⟩<;>simp[qaS,aggT,sizeT,qay,kindT,elemT,strT,hi,hu,h1,h2]
theorem qaw {e:TypeId} (hi:P.info? t=some i) (hu:P.underlying t=some (.slice e)) (h1:i.size=1) (h2:i.bytes=b):TyOne P t b none (some e) false:=by
 refine⟨?_,?_,?_,?_,?_,?_,?_⟩<;>simp[qaS,aggT,sizeT,qay,kindT,elemT,strT,hi,hu,h1,h2]
theorem qaX {e:TypeId} (hi:P.info? t=some i) (hu:P.underlying t=some (.pointer e)) (h1:i.size=1) (h2:i.bytes=b):TyOne P t b none none false:=by
 refine⟨?_,?_,?_,?_,?_,?_,?_⟩<;>simp[qaS,aggT,sizeT,qay,kindT,elemT,strT,hi,hu,h1,h2]
theorem qb8 {ps rs:Array TypeId} {v:Bool} (hi:P.info? t=some i) (hu:P.underlying t=some (.func ps rs v)) (h1:i.size=1) (h2:i.bytes=b):TyOne P t b none none false:=by
 refine⟨?_,?_,?_,?_,?_,?_,?_⟩<;>simp[qaS,aggT,sizeT,qay,kindT,elemT,strT,hi,hu,h1,h2]
theorem qas {fs:Array Field} {n:Nat} (hi:P.info? t=some i) (hu:P.underlying t=some (.struct fs)) (h1:i.size=n) (h2:i.bytes=b):TyAgg P t n b:=by
 refine⟨?_,?_,?_,?_,?_,?_,?_⟩<;>simp[qaS,aggT,sizeT,qay,kindT,elemT,strT,hi,hu,h1,h2]
theorem qeD {k e n:Nat} (hi:P.info? t=some i) (hu:P.underlying t=some (.array k e)) (h1:i.size=n) (h2:i.bytes=b):TyAgg P t n b:=by
 refine⟨?_,?_,?_,?_,?_,?_,?_⟩<;>simp[qaS,aggT,sizeT,qay,kindT,elemT,strT,hi,hu,h1,h2]
theorem arrOf {k e:Nat} (hu:P.underlying t=some (.array k e)):arrT P t=some (k,e):=by
 unfold arrT
 rw[hu]
theorem tyZ {v:Value} {cs:List PV} (hi:P.info? t=some i) (hz:i.zero=some v) (hv:flatV (ofV v)=cs) (hl:cs.length=i.size) (ho:cs.all oneC=true):TyZ P t cs:=by
 have h:zeroT P t=some cs:=by simp[zeroT,hi,hz,hv]
 refine⟨?_,h⟩
 simp[zokT,h,sizeT,hi,hl]
 simpa using ho
theorem qat {fs:Array Field} (hu:P.underlying t=some (.struct fs)) (h:∀f∈fs.toList,(P.info? f.type).isSome=true):qap P t=true:=by
 unfold qap
 rw[hu]
 simp only[Array.all_eq_true_iff_forall_mem]
 exact fun f hf=>h f (by simpa using hf)
theorem fldOf {fs:Array Field} {f n o:Nat} {x:Field} {a:Bool} (hu:P.underlying t=some (.struct fs)) (hx:fs[f]?=some x) (ho:x.offset=o) (hk:qaS P x.type=true) (ha:aggT P x.type=a) (hn:sizeT P x.type=n):fldT P t f=some (o,a,n):=by
 subst ho
 unfold fldT
 rw[hu]
 simp[hx,hk,ha,hn]
end Go.Ab
