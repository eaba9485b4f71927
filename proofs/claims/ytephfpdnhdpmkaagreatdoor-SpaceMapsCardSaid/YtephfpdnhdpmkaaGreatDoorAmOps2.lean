/- THE OPERATIONS THAT LEAVE MEMORY AS IT IS, the rest, and all together: the model does what the interpreter says. No condition. -/
import Derived.Test.YtephfpdnhdpmkaaGreatDoorAmOps
import Derived.WalkSpells
set_option linter.all false
namespace Go.Am
open Go Go.RowKit
set_option linter.unusedSectionVars false
variable [dy]
variable {P:Program} {w0:World} {V:View} {H:ab} {W:World} {tm:List AV} {a:Act}
theorem o4 {op:BinOp} {k:IntKind} {x y:Int} {v:AV} (h:bits op k x y=some v):∃u,(Op.intBits op k x y).run P W= .ok u W/\Rep V v u:=by
 cases op<;>simp only[bits]at h<;>cases h<;>exact⟨_,rfl,.int _ _⟩
theorem tE {op:BinOp} {t:TypeId} {k k':IntKind} {x y:Int} {v:AV} (h:dB op k x k' y=some v):
   ∃u,(binOp op t (.int k x) (.int k' y)).run P W= .ok u W/\Rep V v u:=by
 unfold dB at h
 cases op<;>simp only at h
 case shl|shr=>
   split at h
   . cases h
   . rename_i hc;cases h;exact⟨_,by simp[binOp,Op.shift,hc],.int _ _⟩
 case quo|rem=>
   split at h
   . rename_i hc;obtain⟨rfl,h0⟩:=hc;cases h;exact⟨_,by simp[binOp,Op.intDiv,h0],.int _ _⟩
   . cases h
 case and|or|xor|andNot=>
   split at h
   . rename_i hc;obtain rfl:=hc;obtain⟨u,hu,hr⟩:=o4 (P:=P) (W:=W) (V:=V) h;exact⟨u,by simpa[binOp] using hu,hr⟩
   . cases h
 case add|sub|mul=>
   split at h
   . rename_i hc;obtain rfl:=hc;cases h;exact⟨_,by simp[binOp,Op.intArith],.int _ _⟩
   . cases h
 all_goals
   split at h
   . rename_i hc;obtain rfl:=hc;cases h;exact⟨_,by simp[binOp,Op.intCmp],.bool _⟩
   . cases h
theorem tO {op:BinOp} {t:TypeId} {x y:ByteArray} {v:AV} (h:tU op x y=some v):∃u,(binOp op t (.string x) (.string y)).run P W= .ok u W/\Rep V v u:=by
 unfold tU at h
 cases op<;>simp only at h<;>(try cases h)
 case add=>
   split at h
   . rename_i hc;cases h;refine⟨.string (x++y), ?_,.str _⟩
     have:¬((x.size+y.size:Nat):Int)>IntKind.i64.max:=by simp only[IntKind.max_i64];omega
     simp only[binOp,Op.stringOp,if_neg this,Sem.run_pure]
   . cases h
 all_goals exact⟨_,by simp[binOp,Op.stringOp],.bool _⟩
theorem vx (op:BinOp) (t:TypeId) (x y:Operand) (k k':IntKind) (m n:Int):(eqGuard op t x y (.int k m) (.int k' n)).run P W= .ok () W:=by cases op<;>rfl
theorem uY (op:BinOp) (t:TypeId) (x y:Operand) (m n:ByteArray):(eqGuard op t x y (.string m) (.string n)).run P W= .ok () W:=by cases op<;>rfl
theorem de {t:TypeId} {k:Nat} (h:kindOf P t=some k):(k=0/\∃q,P.underlying t=some (.int q))∨(k=1/\P.underlying t=some .bool)∨(k=2/\P.underlying t=some .string):=by
 unfold kindOf at h;split at h
 . rename_i q hu;simp at h;exact .inl ⟨h.symm,q,hu⟩
 . rename_i hu;simp at h;exact .inr (.inl ⟨h.symm,hu⟩)
 . rename_i hu;simp at h;exact .inr (.inr ⟨h.symm,hu⟩)
 . cases h
theorem du {t:TypeId} {k:Nat} (h:kindOf P t=some k) (w:World):(isAgg t).run P w= .ok false w:=by
 rcases de h with⟨_,q,hu⟩|⟨_,hu⟩|⟨_,hu⟩<;>simp[isAgg,run_underlying hu]
theorem iE {t:TypeId} {k:Nat} (hk:kindOf P t=some k) {x y:AV} {u u':Value} (hx:Rep V x u) (hy:Rep V y u') {b:Bool} (h:bk k x y=some b) (d:Nat):
   (Op.equalIn (d+1) t u u').run P W= .ok b W:=by
 unfold bk at h;split at h
 . split at h
   . rename_i hc;obtain rfl:=hc;cases h;rw[bu hx,bu hy]
     rcases de hk with⟨_,q,hu⟩|⟨h0,_⟩|⟨h0,_⟩
     . exact run_equalIn_int W d t _ q _ _ hu
     . cases h0
     . cases h0
   . cases h
 . cases h;rw[dq hx,dq hy]
   rcases de hk with⟨h0,_⟩|⟨_,hu⟩|⟨h0,_⟩
   . cases h0
   . exact run_equalIn_bool' W d t _ _ hu
   . cases h0
 . cases h;rw[cR hx,cR hy]
   rcases de hk with⟨h0,_⟩|⟨h0,_⟩|⟨_,hu⟩
   . cases h0
   . cases h0
   . rw[run_equalIn_string W d t _ _ hu,beq_toListBytes]
 . cases h
theorem jX (d:Nat) (us us':Array Value):∀(fs:List Field) (ks:List Nat) (xs ys:List AV) (k:Nat) (b:Bool),fT P fs k=some ks->aj V xs (us.toList.drop k)->aj V ys (us'.toList.drop k)→
   aW ks xs ys=some b->(Op.eqFields (d+1) us us' fs).run P W= .ok b W
 | [],ks,xs,ys,k,b,hp,_,_,h=>by
   simp only[fT,Option.some.injEq]at hp;subst hp
   cases xs<;>cases ys<;>simp[aW]at h
   subst h;rfl
 | f::fs,ks,xs,ys,k,b,hp,hx,hy,h=>by
   simp only[fT]at hp;split at hp
   . rename_i hc;obtain⟨hn,hoff⟩:=hc;split at hp
     . rename_i kd ks' hk hks;cases hp
       cases xs with
       |nil=>simp[aW]at h
       |cons x xs=>
       cases ys with
       |nil=>simp[aW]at h
       | cons y ys=>
         simp only[aW]at h;have hx1:=hx.get (i:=0) (x:=x) rfl;have hy1:=hy.get (i:=0) (x:=y) rfl;obtain⟨u,hu,hru⟩:=hx1;obtain⟨u',hu',hru'⟩:=hy1;rw[List.getElem?_drop]at hu hu';simp only[Nat.add_zero,Array.getElem?_toList]at hu hu'
         have p1:(part f.type us f.offset).run P W= .ok u W:=by
           rw[hoff];simp only[part,Sem.run_bind,du hk,Result.andThen_ok,Bool.false_eq_true,if_false,hu,Sem.run_pure]
         have p2:(part f.type us' f.offset).run P W= .ok u' W:=by
           rw[hoff];simp only[part,Sem.run_bind,du hk,Result.andThen_ok,Bool.false_eq_true,if_false,hu',Sem.run_pure]
         have t1:aj V xs (us.toList.drop (k+1)):=by have:=(hx.drop 1);simpa[List.drop_drop] using this
         have t2:aj V ys (us'.toList.drop (k+1)):=by have:=(hy.drop 1);simpa[List.drop_drop] using this
         simp only[Op.eqFields,hn,ne_eq,not_false_eq_true,if_true,Sem.run_bind,p1,p2,Result.andThen_ok]
         cases hce:bk kd x y with
         |none=>simp[hce]at h
         | some b1=>
           rw[iE hk hru hru' hce d]
           cases b1 with
           | true=>
             simp only[hce]at h;simp only[Result.andThen_ok,Bool.not_true,Bool.false_eq_true,if_false];exact jX d us us' fs ks' xs ys (k+1) b hks t1 t2 h
           | false=>
             simp only[hce,Option.some.injEq]at h;subst h;simp
     . cases hp
   . cases hp
def jE (d:Nat) (e:TypeId) (m:Nat) (xs ys:Array Value):List Nat->Sem Bool
 |[]=>pure true
 | i::r=>do
   let a<-part e xs (i*m)
   let b<-part e ys (i*m)
   let q<-Op.equalIn d e a b
   if(!q)=true then pure false else jE d e m xs ys r
theorem run_equalIn_array (d:Nat) (t:TypeId) (n m:Nat) (e:TypeId) (xs ys:Array Value) (hu:P.underlying t=some (.array n e)) (hm:∀w,(sizeOf e).run P w= .ok m w) (w:World):
   (Op.equalIn (d+1) t (.agg xs) (.agg ys)).run P w=(jE d e m xs ys (List.range' 0 n)).run P w:=by
 simp only[Op.equalIn,Sem.run_bind,run_underlying hu,Result.andThen_ok,hm];rw[Std.Legacy.Range.forIn_eq_forIn_range']
 have:([0:n]:Std.Legacy.Range).size=n:=by simp[Std.Legacy.Range.size]
 simp only[this];generalize List.range' 0 n 1=l
 induction l generalizing w with
 |nil=>simp[jE]
 | cons i l ih=>
   simp only[List.forIn_cons,jE,Sem.run_bind];generalize (part e xs (i*m)).run P w=r1
   cases r1 with
   | ok a w1=>
     simp only[Result.andThen_ok];generalize (part e ys (i*m)).run P w1=r2
     cases r2 with
     | ok b w2=>
       simp only[Result.andThen_ok];generalize (Op.equalIn d e a b).run P w2=r3
       cases r3 with
       | ok r w3=>
         cases r
         . simp only[Result.andThen_ok,Bool.not_false,if_true,Sem.run_pure]
         . simp only[Result.andThen_ok,Bool.not_true,Bool.false_eq_true,if_false,Sem.run_pure];exact ih w3
       |halt x w3=>simp[Result.andThen]
     |halt x w2=>simp[Result.andThen]
   |halt x w1=>simp[Result.andThen]
theorem jg {e:TypeId} {kd:Nat} (hk:kindOf P e=some kd) (d:Nat) (us us':Array Value):∀(n k:Nat) (xs ys:List AV) (b:Bool),aj V xs (us.toList.drop k)->aj V ys (us'.toList.drop k)→
   aW (List.replicate n kd) xs ys=some b->(jE (d+1) e 1 us us' (List.range' k n)).run P W= .ok b W
 | 0,k,xs,ys,b,_,_,h=>by
   cases xs<;>cases ys<;>simp[aW]at h
   subst h;rfl
 | n+1,k,xs,ys,b,hx,hy,h=>by
   rw[List.replicate_succ]at h
   cases xs with
   |nil=>simp[aW]at h
   |cons x xs=>
   cases ys with
   |nil=>simp[aW]at h
   | cons y ys=>
     simp only[aW]at h;obtain⟨u,hu,hru⟩:=hx.get (i:=0) (x:=x) rfl;obtain⟨u',hu',hru'⟩:=hy.get (i:=0) (x:=y) rfl;rw[List.getElem?_drop]at hu hu';simp only[Nat.add_zero,Array.getElem?_toList]at hu hu'
     have p1:(part e us (k*1)).run P W= .ok u W:=by
       rw[Nat.mul_one];simp only[part,Sem.run_bind,du hk,Result.andThen_ok,Bool.false_eq_true,if_false,hu,Sem.run_pure]
     have p2:(part e us' (k*1)).run P W= .ok u' W:=by
       rw[Nat.mul_one];simp only[part,Sem.run_bind,du hk,Result.andThen_ok,Bool.false_eq_true,if_false,hu',Sem.run_pure]
     have t1:aj V xs (us.toList.drop (k+1)):=by have:=(hx.drop 1);simpa[List.drop_drop] using this
     have t2:aj V ys (us'.toList.drop (k+1)):=by have:=(hy.drop 1);simpa[List.drop_drop] using this
     rw[List.range'_succ];simp only[jE,Sem.run_bind,p1,p2,Result.andThen_ok]
     cases hce:bk kd x y with
     |none=>simp[hce]at h
     | some b1=>
       rw[iE hk hru hru' hce d]
       cases b1 with
       | true=>
         simp only[hce]at h;simp only[Result.andThen_ok,Bool.not_true,Bool.false_eq_true,if_false];exact jg hk d us us' n (k+1) xs ys b t1 t2 h
       | false=>
         simp only[hce,Option.some.injEq]at h;subst h;simp
section
variable (d:Nat) (t:TypeId)
theorem I3 (a b:Bool) (hu:P.underlying t=some .bool):(Op.equalIn (d+1) t (.bool a) (.bool b)).run P W= .ok (a==b) W:=run_equalIn_bool' W d t a b hu
theorem Lb (ms:Array (String×TypeId)) (q:TypeId) (v:Value) (hu:P.underlying t=some (.interface ms)):(Op.equalIn (d+1) t .nilIface (.iface q v)).run P W= .ok false W:=by
 unfold Op.equalIn;simp only[Sem.run_bind,run_underlying hu,Result.andThen_ok,Sem.run_pure]
theorem Lv (ms:Array (String×TypeId)) (q:TypeId) (v:Value) (hu:P.underlying t=some (.interface ms)):(Op.equalIn (d+1) t (.iface q v) .nilIface).run P W= .ok false W:=by
 unfold Op.equalIn;simp only[Sem.run_bind,run_underlying hu,Result.andThen_ok,Sem.run_pure]
theorem Ej (e:TypeId) (b:Option Addr) (hu:P.underlying t=some (.pointer e)):(Op.equalIn (d+1) t (.pointer none) (.pointer b)).run P W= .ok b.isNone W:=by
 unfold Op.equalIn;simp only[Sem.run_bind,run_underlying hu,Result.andThen_ok,Sem.run_pure]
theorem KN (e:TypeId) (b:Addr) (hu:P.underlying t=some (.pointer e)):(Op.equalIn (d+1) t (.pointer (some b)) (.pointer none)).run P W= .ok false W:=by
 unfold Op.equalIn;simp only[Sem.run_bind,run_underlying hu,Result.andThen_ok,Sem.run_pure]
theorem MX (x y:Array TypeId) (z:Bool) (hu:P.underlying t=some (.func x y z)):(Op.equalIn (d+1) t .nilFunc .nilFunc).run P W= .ok true W:=by
 unfold Op.equalIn;simp only[Sem.run_bind,run_underlying hu,Result.andThen_ok,Sem.run_pure]
theorem ND (x y:Array TypeId) (z:Bool) (f:Fn) (p q:Array Value) (hu:P.underlying t=some (.func x y z)):(Op.equalIn (d+1) t .nilFunc (.func f p q)).run P W= .ok false W:=by
 unfold Op.equalIn;simp only[Sem.run_bind,run_underlying hu,Result.andThen_ok,Sem.run_pure]
theorem MS (x y:Array TypeId) (z:Bool) (f:Fn) (p q:Array Value) (hu:P.underlying t=some (.func x y z)):(Op.equalIn (d+1) t (.func f p q) .nilFunc).run P W= .ok false W:=by
 unfold Op.equalIn;simp only[Sem.run_bind,run_underlying hu,Result.andThen_ok,Sem.run_pure]
theorem Kx (x y:TypeId) (b:Option Nat) (hu:P.underlying t=some (.map x y)):(Op.equalIn (d+1) t (.map none) (.map b)).run P W= .ok b.isNone W:=by
 unfold Op.equalIn;simp only[Sem.run_bind,run_underlying hu,Result.andThen_ok,Sem.run_pure]
theorem Nz (x y:TypeId) (b:Nat) (hu:P.underlying t=some (.map x y)):(Op.equalIn (d+1) t (.map (some b)) (.map none)).run P W= .ok false W:=by
 unfold Op.equalIn;simp only[Sem.run_bind,run_underlying hu,Result.andThen_ok,Sem.run_pure]
theorem A3 (e:TypeId) (b:Option Addr) (n c n' c':Nat) (hu:P.underlying t=some (.slice e)):(Op.equalIn (d+1) t (.slice none n c) (.slice b n' c')).run P W= .ok b.isNone W:=by
 unfold Op.equalIn;simp only[Sem.run_bind,run_underlying hu,Result.andThen_ok,Sem.run_pure]
theorem vK (e:TypeId) (b:Addr) (n c n' c':Nat) (hu:P.underlying t=some (.slice e)):(Op.equalIn (d+1) t (.slice (some b) n c) (.slice none n' c')).run P W= .ok false W:=by
 unfold Op.equalIn;simp only[Sem.run_bind,run_underlying hu,Result.andThen_ok,Sem.run_pure]
end
def Lf (P:Program) (t:TypeId):EqK->Prop
 | .num=>∃k,P.underlying t=some (.int k)
 | .bool=>P.underlying t=some .bool
 | .iface=>∃ms,P.underlying t=some (.interface ms)
 | .ptr=>∃e,P.underlying t=some (.pointer e)
 | .func=>∃x y z,P.underlying t=some (.func x y z)
 | .map=>∃x y,P.underlying t=some (.map x y)
 | .slice=>∃e,P.underlying t=some (.slice e)
 | .str=>P.underlying t=some .string
 | .struct ks=>P.eqGuardType P.depth t=false/\((∃fs,P.underlying t=some (.struct fs)/\P.stoodInHeld t=false/\dX P fs.toList 0=some ks)∨∃n e kd,P.underlying t=some (.array n e)/\kindOf P e=some kd/\e9 P e=some 1/\ks=List.replicate n kd)
theorem mN {t:TypeId} {ek:EqK} (hk:zQ P t=some ek):Lf P t ek:=by
 unfold zQ at hk;split at hk
 . cases hk;exact⟨_,by assumption⟩
 . cases hk;assumption
 . cases hk;assumption
 . cases hk;exact⟨_,by assumption⟩
 . cases hk;exact⟨_,by assumption⟩
 . cases hk;exact⟨_,_,_,by assumption⟩
 . cases hk;exact⟨_,_,by assumption⟩
 . cases hk;exact⟨_,by assumption⟩
 . rename_i fs hu;split at hk
   . cases hk
   . rename_i hc;obtain⟨ks,hks,rfl⟩:=Option.map_eq_some_iff.1 hk;simp only[Bool.or_eq_true,not_or,Bool.not_eq_true]at hc;exact⟨hc.2,.inl ⟨fs,hu,hc.1,hks⟩⟩
 . rename_i n e hu;split at hk
   . rename_i kd hkd;split at hk
     . rename_i hc;cases hk;exact⟨hc.2,.inr ⟨n,e,kd,hu,hkd,hc.1,rfl⟩⟩
     . cases hk
   . cases hk
 . cases hk
theorem j9:∀(ks ks2:List Nat) (xs ys:List AV) (b:Bool),aW (ks++ks2) xs ys=some b→
   ∃b1,aW ks (xs.take ks.length) (ys.take ks.length)=some b1/\(b1=false->b=false)/\(b1=true->aW ks2 (xs.drop ks.length) (ys.drop ks.length)=some b)
 |[],ks2,xs,ys,b,h=>⟨true,by simp[aW],(fun e=>by cases e),fun _=>by simpa using h⟩
 |k::ks,ks2,[],ys,b,h=>by simp[aW]at h
 |k::ks,ks2,x::xs,[],b,h=>by simp[aW]at h
 | k::ks,ks2,x::xs,y::ys,b,h=>by
   rw[List.cons_append,aW]at h;simp only[List.length_cons,List.take_succ_cons,List.drop_succ_cons,aW]
   cases hc:bk k x y with
   |none=>simp[hc]at h
   | some q=>
     cases q with
     | true=>
       simp only[hc]at h ⊢;exact j9 ks ks2 xs ys b h
     | false=>
       simp only[hc,Option.some.injEq]at h ⊢;exact⟨false,rfl,fun _=>h.symm,fun e=>by cases e⟩
theorem lh {t:TypeId} {us:Array Value} {k n:Nat} (ha:∀w,(isAgg t).run P w= .ok true w) (hs:e9 P t=some n):(part t us k).run P W= .ok (.agg (us.extract k (k+n))) W:=by
 simp only[part,Sem.run_bind,ha,Result.andThen_ok,if_true,cz hs,Sem.run_pure]
theorem lL {xs:List AV} {us:Array Value} {k n:Nat} (h:aj V xs (us.toList.drop k)):aj V (xs.take n) ((us.extract k (k+n)).toList.drop 0):=by
 have:=h.take n;rw[Array.toList_extract];simpa[List.extract_eq_take_drop] using this
theorem xj {t:TypeId} {ks:List Nat} (hk:kB P t=some ks) {us us':Array Value} {k:Nat} {xs ys:List AV} (hx:aj V xs (us.toList.drop k)) (hy:aj V ys (us'.toList.drop k)) {b:Bool} (h:aW ks (xs.take ks.length) (ys.take ks.length)=some b) (d:Nat):
   ∃v v',(part t us k).run P W= .ok v W/\(part t us' k).run P W= .ok v' W/\(Op.equalIn (d+2) t v v').run P W= .ok b W:=by
 unfold kB at hk;split at hk
 . rename_i kd hkd;cases hk
   cases xs with
   |nil=>simp[aW]at h
   |cons x xs=>
   cases ys with
   |nil=>simp[aW]at h
   | cons y ys=>
     obtain⟨u,hu,hru⟩:=hx.get (i:=0) (x:=x) rfl;obtain⟨u',hu',hru'⟩:=hy.get (i:=0) (x:=y) rfl;rw[List.getElem?_drop]at hu hu';simp only[Nat.add_zero,Array.getElem?_toList]at hu hu';refine⟨u,u', ?_, ?_, ?_⟩
     . simp only[part,Sem.run_bind,du hkd,Result.andThen_ok,Bool.false_eq_true,if_false,hu,Sem.run_pure]
     . simp only[part,Sem.run_bind,du hkd,Result.andThen_ok,Bool.false_eq_true,if_false,hu',Sem.run_pure]
     . refine iE hkd hru hru' ?_ (d+1);simp only[List.length_cons,List.length_nil,List.take_succ_cons,List.take_zero,aW]at h
       cases hc:bk kd x y with
       |none=>simp[hc]at h
       |some q=>cases q<;>simpa[hc] using h
 . split at hk
   . rename_i fs hu;split at hk
     . rename_i ks' hks;split at hk
       . rename_i hc;cases hk
         have ha:∀w,(isAgg t).run P w= .ok true w:=fun w=>by simp[isAgg,run_underlying hu]
         refine⟨_,_,lh ha hc.2,lh ha hc.2, ?_⟩
         have hf:P.underlying t=some (.struct (P.fieldsOf t)):=by simp[Program.fieldsOf,hu]
         rw[run_equalIn_agg W (d+1) t _ _ hf hc.1]
         have hfe:P.fieldsOf t=fs:=by simp[Program.fieldsOf,hu]
         rw[hfe];exact jX d _ _ fs.toList ks _ _ 0 b hks (lL hx) (lL hy) h
       . cases hk
     . cases hk
   . rename_i n e hu;split at hk
     . rename_i kd hkd;split at hk
       . rename_i hc;cases hk
         have ha:∀w,(isAgg t).run P w= .ok true w:=fun w=>by simp[isAgg,run_underlying hu]
         refine⟨_,_,lh ha hc.2,lh ha hc.2, ?_⟩;rw[run_equalIn_array (d+1) t n 1 e _ _ hu (fun w=>cz hc.1 w) W];rw[List.length_replicate]at h;exact jg hkd d _ _ n 0 _ _ b (lL hx) (lL hy) h
       . cases hk
     . cases hk
   . cases hk
theorem lg (d:Nat) (us us':Array Value):∀(fs:List Field) (ks:List Nat) (xs ys:List AV) (k:Nat) (b:Bool),dX P fs k=some ks->aj V xs (us.toList.drop k)->aj V ys (us'.toList.drop k)→
   aW ks xs ys=some b->(Op.eqFields (d+2) us us' fs).run P W= .ok b W
 | [],ks,xs,ys,k,b,hp,_,_,h=>by
   simp only[dX,Option.some.injEq]at hp;subst hp
   cases xs<;>cases ys<;>simp[aW]at h
   subst h;rfl
 | f::fs,ks,xs,ys,k,b,hp,hx,hy,h=>by
   simp only[dX]at hp;split at hp
   . rename_i hc;obtain⟨hn,hoff⟩:=hc;split at hp
     . rename_i ks1 hk;obtain⟨ks2,hks,rfl⟩:=Option.map_eq_some_iff.1 hp;obtain⟨b1,h1,h2,h3⟩:=j9 ks1 ks2 xs ys b h;obtain⟨v,v',p1,p2,p3⟩:=xj (W:=W) hk hx hy h1 d;rw[<-hoff]at p1 p2
       have t1:aj V (xs.drop ks1.length) (us.toList.drop (k+ks1.length)):=by have:=(hx.drop ks1.length);simpa[List.drop_drop] using this
       have t2:aj V (ys.drop ks1.length) (us'.toList.drop (k+ks1.length)):=by have:=(hy.drop ks1.length);simpa[List.drop_drop] using this
       simp only[Op.eqFields,hn,ne_eq,not_false_eq_true,if_true,Sem.run_bind,p1,p2,p3,Result.andThen_ok]
       cases b1 with
       | true=>
         simp only[Bool.not_true,Bool.false_eq_true,if_false];exact lg d us us' fs ks2 _ _ _ b hks t1 t2 (h3 rfl)
       | false=>
         rw[h2 rfl];simp
     . cases hp
   . cases hp
theorem CJ {t:TypeId} {ek:EqK} (hk:zQ P t=some ek) {x y:AV} {u u':Value} (hx:Rep V x u) (hy:Rep V y u') {b:Bool} (h:eqV ek x y=some b) (d:Nat):
   (Op.equalIn (d+3) t u u').run P W= .ok b W:=by
 have hi:=mN hk;unfold eqV at h;split at h
 . cases h;rw[dq hx,dq hy];exact I3 _ t _ _ hi
 . cases h;cases hx;cases hy;obtain⟨ms,hu⟩:=hi;exact Lb _ t _ _ _ hu
 . cases h;cases hx;cases hy;obtain⟨ms,hu⟩:=hi;exact Lv _ t _ _ _ hu
 . cases h;cases hx;cases hy;obtain⟨e,hu⟩:=hi;exact Ej _ t e _ hu
 . cases h;cases hx;cases hy;obtain⟨e,hu⟩:=hi;exact Ej _ t e _ hu
 . cases h;cases hx;cases hy;obtain⟨e,hu⟩:=hi;exact KN _ t e _ hu
 . cases h;cases hx;cases hy;obtain⟨e,hu⟩:=hi;exact Ej _ t e _ hu
 . cases h;cases hx;cases hy;obtain⟨e,hu⟩:=hi;exact KN _ t e _ hu
 . cases h;cases hx;cases hy;obtain⟨x,y,z,hu⟩:=hi;exact MX _ t _ _ _ hu
 . cases h;cases hx;cases hy;obtain⟨x,y,z,hu⟩:=hi;exact ND _ t _ _ _ _ _ _ hu
 . cases h;cases hx;cases hy;obtain⟨x,y,z,hu⟩:=hi;exact MS _ t _ _ _ _ _ _ hu
 . cases h;cases hx;cases hy;obtain⟨x,y,hu⟩:=hi;exact Kx _ t _ _ _ hu
 . cases h;cases hx;cases hy;obtain⟨x,y,hu⟩:=hi;exact Kx _ t _ _ _ hu
 . cases h;cases hx;cases hy;obtain⟨x,y,hu⟩:=hi;exact Nz _ t _ _ _ hu
 . rename_i tk;cases h;obtain⟨e,hu⟩:=hi
   cases hx with
   |sl f _ _ _ _ _ ht=>rcases ht with ht|⟨ht,_⟩<;>cases ht
   | slnil _=>
     cases hy with
     |slnil _=>exact A3 _ t e _ _ _ _ _ hu
     |slx _ _=>exact A3 _ t e _ _ _ _ _ hu
     | sl f _ _ _ _ _ ht=>
       rw[A3 _ t e _ _ _ _ _ hu]
       rcases ht with ht|⟨ht,_⟩<;>rw[ht]<;>rfl
     |slo f _ _ _ _ _=>exact A3 _ t e _ _ _ _ _ hu
 . rename_i hne;cases h;obtain⟨e,hu⟩:=hi
   cases hy with
   |sl f _ _ _ _ _ ht=>rcases ht with ht|⟨ht,_⟩<;>cases ht
   | slnil _=>
     cases hx with
     |slnil _=>exact(hne rfl).elim
     |slx _ _=>exact vK _ t e _ _ _ _ _ hu
     |sl f _ _ _ _ _ ht=>exact vK _ t e _ _ _ _ _ hu
     |slo f _ _ _ _ _=>exact vK _ t e _ _ _ _ _ hu
 . cases h;obtain⟨e,hu⟩:=hi
   cases hy with
   |sl f _ _ _ _ _ ht=>rcases ht with ht|⟨ht,_⟩<;>cases ht
   | slnil _=>
     cases hx;exact vK _ t e _ _ _ _ _ hu
 . cases h;obtain⟨e,hu⟩:=hi
   cases hy with
   |sl f _ _ _ _ _ ht=>rcases ht with ht|⟨ht,_⟩<;>cases ht
   | slnil _=>
     cases hx;exact vK _ t e _ _ _ _ _ hu
 . rename_i ks xs ys;obtain⟨us,rfl,h1⟩:=oC hx;obtain⟨us',rfl,h2⟩:=oC hy;obtain⟨hs2,⟨fs,hu,hs1,hks⟩|⟨n,e,kd,hu,hkd,hsz,rfl⟩⟩:=hi
   case inr=>
     rw[run_equalIn_array (d+2) t n 1 e us us' hu (fun w=>cz hsz w) W];exact jg hkd (d+1) us us' n 0 xs ys b (by simpa using h1) (by simpa using h2) h
   have hf:P.underlying t=some (.struct (P.fieldsOf t)):=by simp[Program.fieldsOf,hu]
   rw[run_equalIn_agg W (d+2) t us us' hf hs1]
   have hfe:P.fieldsOf t=fs:=by simp[Program.fieldsOf,hu]
   rw[hfe];exact lg d us us' fs.toList _ xs ys 0 b hks (by simpa using h1) (by simpa using h2) h
 . cases h
theorem l9 {x:Operand} {x':X} (h:cX x=some x') (hn:uz x'=true):x= .const .nilIface:=by
 unfold cX at h;split at h
 . cases h;cases hn
 . rename_i v
   cases hv:ofC v with
   |none=>simp[hv]at h
   | some w=>
     simp only[hv,Option.map_some,Option.some.injEq]at h;subst h;unfold uz at hn;split at hn
     . rename_i e;cases e;unfold ofC at hv;split at hv
       . rename_i cs
         cases hm:cK zu cs.toList<;>simp[hm]at hv
       . split at hv<;>simp at hv
       . unfold zu at hv
         split at hv<;>simp at hv
         rfl
     . cases hn
 . cases h;cases hn
 . cases h
theorem qY (op:BinOp) (t:TypeId) (x y:Operand) {u u':Value} (h1:¬(u= .nilIface/\u'= .nilIface)) (h2:(∃cs,u= .agg cs)->(∃cs,u'= .agg cs)->P.eqGuardType P.depth t=false):
   (eqGuard op t x y u u').run P W= .ok () W:=by
 by_cases ha:(∃cs,u= .agg cs)/\(∃cs,u'= .agg cs)
 . obtain⟨⟨cs,rfl⟩,⟨cs',rfl⟩⟩:=ha;exact run_eqGuard_agg W op t x y cs cs' (h2 ⟨cs,rfl⟩ ⟨cs',rfl⟩)
 . unfold eqGuard
   cases op<;>simp only[Bool.not_true,Bool.not_false,Bool.false_eq_true,if_true,if_false,Sem.run_pure]<;>(try rfl)
   all_goals
     split
     . exact absurd ⟨rfl,rfl⟩ h1
     . exact absurd ⟨⟨_,rfl⟩,⟨_,rfl⟩⟩ ha
     . rfl
theorem Me (hT:aj V tm a.tmps.toList) {o:Oper} {op:BinOp} {t t':TypeId} {x y:Operand} {v:AV} {ao:AOp} (ho:o.op= .binOp op t x y t') (hc:cOp P o=some ao) (h:aT ao tm H=some v):e8 P V W a o v:=by
 simp only[cOp,ho]at hc;split at hc
 . rename_i ek x' y' hk hx hy;cases hc;have hrx:=aM hT hx;have hry:=aM hT hy
   have fin:∀u,(eqGuard op t x y (a.eval x) (a.eval y)).run P W= .ok () W->(binOp op t (a.eval x) (a.eval y)).run P W= .ok u W->Rep V v u->e8 P V W a o v:=by
     intro u h1 h2 h3;refine aP (S:=do eqGuard op t x y (a.eval x) (a.eval y);binOp op t (a.eval x) (a.eval y)) (u:=u) (by simp[execOp,ho]) ?_ h3;simp only[Sem.run_bind,h1,Result.andThen_ok,h2]
   simp only[aT,bE]at h;split at h
   . rename_i k m k' n e1 e2;rw[e1]at hrx;rw[e2]at hry;obtain⟨u,hu,hr⟩:=tE (P:=P) (W:=W) (V:=V) (t:=t) h;refine fin u ?_ ?_ hr
     . rw[bu hrx,bu hry];exact vx op t x y _ _ _ _
     . rw[bu hrx,bu hry];exact hu
   . rename_i m n e1 e2;rw[e1]at hrx;rw[e2]at hry;obtain⟨u,hu,hr⟩:=tO (P:=P) (W:=W) (V:=V) (t:=t) h;refine fin u ?_ ?_ hr
     . rw[cR hrx,cR hry];exact uY op t x y _ _
     . rw[cR hrx,cR hry];exact hu
   . rename_i e1 e2;rw[e1]at hrx;rw[e2]at hry
     have hx0:a.eval x= .nilIface:=by generalize a.eval x=u at hrx;cases hrx;rfl
     have hy0:a.eval y= .nilIface:=by generalize a.eval y=u at hry;cases hry;rfl
     split at h
     . obtain⟨ms,hu⟩:=mN hk;split at h
       . rename_i hn
         have hg:(eqGuard op t x y (a.eval x) (a.eval y)).run P W= .ok () W:=by
           rw[hx0,hy0];simp only[Bool.or_eq_true]at hn;unfold eqGuard
           rcases hn with hn|hn
           . rw[l9 hx hn]
             cases op<;>rfl
           . rw[l9 hy hn]
             cases op<;>simp<;>rfl
         have he:(Op.equalIn 10000 t .nilIface .nilIface).run P W= .ok true W:=by
           unfold Op.equalIn;simp only[Sem.run_bind,run_underlying hu,Result.andThen_ok,Sem.run_pure]
         cases op<;>simp only at h<;>cases h
         . refine fin (.bool true) hg ?_ (.bool _);rw[hx0,hy0];simp[binOp,Op.equal,Op.maxDepth,he]
         . refine fin (.bool false) hg ?_ (.bool _);rw[hx0,hy0];simp[binOp,Op.equal,Op.maxDepth,he]
       . cases h
     . cases h
   . rename_i n1 n2 n3
     have key:∀b,eqV ek (x'.ev tm) (y'.ev tm)=some b->(eqGuard op t x y (a.eval x) (a.eval y)).run P W= .ok () W/\(Op.equalIn 10000 t (a.eval x) (a.eval y)).run P W= .ok b W:=by
       intro b hb;refine⟨qY op t x y ?_ ?_,CJ hk hrx hry hb 9997⟩
       . rintro ⟨h1,h2⟩
         rw[h1]at hrx;rw[h2]at hry;generalize x'.ev tm=p at*;generalize y'.ev tm=q at*;cases hrx;cases hry;exact n3 rfl rfl
       . rintro ⟨cs,h1⟩ ⟨cs',h2⟩
         rw[h1]at hrx;rw[h2]at hry;generalize x'.ev tm=p at*;generalize y'.ev tm=q at*;cases hrx;cases hry;have hi:=mN hk;unfold eqV at hb
         split at hb<;>first|(cases hb;done)|(rename_i e _;cases e;done)|skip
         all_goals first
           |exact hi.1
           |(cases hb;done)
     have hxs:∀b,eqV ek (x'.ev tm) (y'.ev tm)=some b->(binOp .eql t (a.eval x) (a.eval y)).run P W= .ok (.bool b) W/\(binOp .neq t (a.eval x) (a.eval y)).run P W= .ok (.bool (!b)) W:=by
       intro b hb;have he:=(key b hb).2
       have gen:∀u u':Value,(Op.equalIn 10000 t u u').run P W= .ok b W->(¬∃k m k' n,u= .int k m/\u'= .int k' n)->(¬∃m n,u= .string m/\u'= .string n)->(¬∃k m,u= .float k m)->(¬∃k m n,u= .complex k m n)→
           (binOp .eql t u u').run P W= .ok (.bool b) W/\(binOp .neq t u u').run P W= .ok (.bool (!b)) W:=by
         intro u u' he g1 g2 g3 g4;constructor
         . cases u<;>cases u'<;>first
             |exact absurd ⟨_,_,_,_,rfl,rfl⟩ g1
             |exact absurd ⟨_,_,rfl,rfl⟩ g2
             |exact absurd ⟨_,_,rfl⟩ g3
             |exact absurd ⟨_,_,_,rfl⟩ g4
             |(simp only[binOp];simp[Op.equal,Op.maxDepth,he])
         . cases u<;>cases u'<;>first
             |exact absurd ⟨_,_,_,_,rfl,rfl⟩ g1
             |exact absurd ⟨_,_,rfl,rfl⟩ g2
             |exact absurd ⟨_,_,rfl⟩ g3
             |exact absurd ⟨_,_,_,rfl⟩ g4
             |(simp only[binOp];simp[Op.equal,Op.maxDepth,he])
       refine gen _ _ he ?_ ?_ ?_ ?_
       . rintro ⟨k,m,k',n,h1,h2⟩
         rw[h1]at hrx;rw[h2]at hry;generalize x'.ev tm=p at*;generalize y'.ev tm=q at*;cases hrx;cases hry;exact n1 _ _ _ _ rfl rfl
       . rintro ⟨m,n,h1,h2⟩
         rw[h1]at hrx;rw[h2]at hry;generalize x'.ev tm=p at*;generalize y'.ev tm=q at*;cases hrx;cases hry;exact n2 _ _ rfl rfl
       . rintro ⟨k,m,h1⟩
         rw[h1]at hrx;generalize x'.ev tm=p at*;cases hrx
       . rintro ⟨k,m,n,h1⟩
         rw[h1]at hrx;generalize x'.ev tm=p at*;cases hrx
     cases op<;>simp only at h<;>(try cases h)
     . obtain⟨b,hb,rfl⟩:=Option.map_eq_some_iff.1 h;exact fin _ (key b hb).1 (hxs b hb).1 (.bool _)
     . obtain⟨b,hb,rfl⟩:=Option.map_eq_some_iff.1 h;exact fin _ (key b hb).1 (hxs b hb).2 (.bool _)
 . cases hc
end Go.Am
