/- TEXTS OF THE WALKS, put together: RM IM CB0. No condition but those stated. -/
import Derived.Test.YtogbblcnfcfflaaGreatAmSet
import Derived.Test.YtogbblcnfcfflaaGreatAmDef
open Int (reduceEq)
open Nat (reduceEqDiff reduceAdd reduceMul reduceLT reduceLeDiff)
set_option linter.all false
set_option maxHeartbeats 8000000
set_option maxRecDepth 1000000
namespace Go.Rec
open Go Go.Am
def byA (b : UInt8) : List AV := [byteA b]
def u64A (j : Int) : List AV := [.int .u64 j]
def putA (p : Int × Int) : List AV := [.int .i64 p.1,.int .u64 p.2]
instance : Even byA 1 := ⟨fun _ => rfl⟩
instance : Even u64A 1 := ⟨fun _ => rfl⟩
instance : Even putA 2 := ⟨fun _ => rfl⟩
theorem hf_byA (l : List UInt8) : hfL (encs byA l) = true := hfL_encs (fun _ => rfl) l
theorem hf_u64A (l : List Int) : hfL (encs u64A l) = true := hfL_encs (fun _ => rfl) l
theorem one_u64A (l : List Int) : allOne (encs u64A l) = true := allOne_encs (fun _ => rfl) l
theorem bytesA_encs (s : ByteArray) : bytesA s = encs byA s.data.toList := by
 unfold bytesA
 induction s.data.toList with
 | nil => rfl
 | cons x r ih => rw [List.map_cons,encs_cons,ih]; rfl
theorem unbytes_encs : ∀ l : List UInt8,unbytes (encs byA l) = some l
 | [] => rfl
 | b :: r => by
   show (unbytes (encs byA r)).map (UInt8.ofNat (b.toNat : Int).toNat :: ·) = _
   rw [unbytes_encs r]
   simp
def wordM : List UInt8 -> Int
 | [] => 0
 | b :: r => (b.toNat : Int) + 256 * wordM r
theorem wordM_nonneg : ∀ l,0 <= wordM l
 | [] => Int.le_refl _
 | b :: r => by have := wordM_nonneg r; simp only [wordM]; omega
theorem u8_lt (b : UInt8) : b.toNat < 256 := b.toNat_lt
theorem wordM_lt : ∀ l : List UInt8,wordM l < 256 ^ l.length
 | [] => by simp [wordM]
 | b :: r => by
   have := wordM_lt r
   have h := u8_lt b
   simp only [wordM,List.length_cons,Int.pow_succ]
   omega
theorem wordM_snoc : ∀ (l : List UInt8) (x : UInt8),wordM (l ++ [x]) = wordM l + (x.toNat : Int) * 256 ^ l.length
 | [],x => by simp [wordM]
 | b :: r,x => by
   have := wordM_snoc r x
   simp only [List.cons_append,wordM,this,List.length_cons,Int.pow_succ]
   rw [Int.mul_add,<- Int.add_assoc,Int.mul_comm 256 ((x.toNat : Int) * 256 ^ r.length),Int.mul_assoc]
theorem pow_le8 {n : Nat} (h : n <= 8) : (256 : Int) ^ n <= 18446744073709551616 := by
 have : n = 0 ∨ n = 1 ∨ n = 2 ∨ n = 3 ∨ n = 4 ∨ n = 5 ∨ n = 6 ∨ n = 7 ∨ n = 8 := by omega
 rcases this with rfl | rfl | rfl | rfl | rfl | rfl | rfl | rfl | rfl <;> decide
def layM : List UInt8 -> List Int
 | [] => []
 | b :: r => wordM ((b :: r).take 8) :: layM ((b :: r).drop 8)
termination_by l => l.length
decreasing_by simp; omega
theorem layM_nil : layM [] = [] := by unfold layM; rfl
theorem layM_ne {l : List UInt8} (h : l ≠ []) : layM l = wordM (l.take 8) :: layM (l.drop 8) := by
 cases l with
 | nil => exact absurd rfl h
 | cons b r => rw [layM]
theorem layM_len (l : List UInt8) : (layM l).length = (l.length + 7) / 8 := by
 have key : ∀ k,∀ l : List UInt8,l.length <= k -> (layM l).length = (l.length + 7) / 8 := by
   intro k
   induction k with
   | zero => intro l h; rw [List.length_eq_zero_iff.1 (Nat.le_zero.1 h),layM_nil]; rfl
   | succ k ih =>
     intro l h
     by_cases hl : l = []
     . rw [hl,layM_nil]; rfl
     . have h0 : 0 < l.length := List.length_pos_iff.2 hl
       rw [layM_ne hl,List.length_cons,ih _ (by rw [List.length_drop]; omega),List.length_drop]
       omega
 exact key _ l (Nat.le_refl _)
theorem layM_append (b : List UInt8) : ∀ (k : Nat) (a : List UInt8),a.length = 8 * k -> layM (a ++ b) = layM a ++ layM b
 | 0,a,h => by rw [List.length_eq_zero_iff.1 h,layM_nil]; rfl
 | k + 1,a,h => by
   have ha : a ≠ [] := by intro e; rw [e] at h; simp at h
   have hab : a ++ b ≠ [] := by simp [ha]
   rw [layM_ne hab,layM_ne ha,List.take_append_of_le_length (by omega),List.drop_append_of_le_length (by omega),layM_append b k (a.drop 8) (by rw [List.length_drop]; omega)]
   rfl
theorem layM_short {l : List UInt8} (h : l ≠ []) (h8 : l.length <= 8) : layM l = [wordM l] := by
 rw [layM_ne h,List.take_of_length_le h8,List.drop_of_length_le h8,layM_nil]
theorem layM_snoc (pre : List UInt8) (x : UInt8) : ∃ init : List Int,∃ last : Int,init.length = pre.length / 8 /\ 0 <= last /\ last < 256 ^ (pre.length % 8) ∧
   layM (pre ++ [x]) = init ++ [last + (x.toNat : Int) * 256 ^ (pre.length % 8)] ∧
   (if pre.length % 8 = 0 then layM pre = init /\ last = 0 else layM pre = init ++ [last]) := by
 have hd : 8 * (pre.length / 8) <= pre.length := by omega
 have ha : (pre.take (8 * (pre.length / 8))).length = 8 * (pre.length / 8) := by rw [List.length_take]; omega
 have hb : (pre.drop (8 * (pre.length / 8))).length = pre.length % 8 := by rw [List.length_drop]; omega
 have e : pre = pre.take (8 * (pre.length / 8)) ++ pre.drop (8 * (pre.length / 8)) := (List.take_append_drop _ _).symm
 refine ⟨layM (pre.take (8 * (pre.length / 8))),wordM (pre.drop (8 * (pre.length / 8))), ?_,wordM_nonneg _, ?_, ?_, ?_⟩
 . rw [layM_len,ha]; omega
 . have := wordM_lt (pre.drop (8 * (pre.length / 8))); rw [hb] at this; exact this
 . have : layM (pre ++ [x]) = layM (pre.take (8 * (pre.length / 8)) ++ (pre.drop (8 * (pre.length / 8)) ++ [x])) := by
     rw [<- List.append_assoc,<- e]
   rw [this,layM_append _ _ _ ha,layM_short (l := pre.drop (8 * (pre.length / 8)) ++ [x]) (by simp) (by rw [List.length_append,hb,List.length_singleton]; omega),wordM_snoc,hb]
 . split
   . rename_i h0
     have hn : pre.drop (8 * (pre.length / 8)) = [] := List.length_eq_zero_iff.1 (by omega)
     rw [hn]
     refine ⟨?_,rfl⟩
     have e2 := e
     rw [hn,List.append_nil] at e2
     rw [<- e2]
   . rename_i h0
     have hn : pre.drop (8 * (pre.length / 8)) ≠ [] := by intro e3; rw [e3] at hb; exact h0 hb.symm
     have h1 := layM_append (pre.drop (8 * (pre.length / 8))) _ _ ha
     rw [<- e,layM_short hn (by omega)] at h1
     exact h1
def bytN (w : Int) : Nat -> List UInt8
 | 0 => []
 | n + 1 => UInt8.ofNat (w % 256).toNat :: bytN (w / 256) n
theorem bytN_len (w : Int) (n : Nat) : (bytN w n).length = n := by
 induction n generalizing w with
 | zero => rfl
 | succ n ih => rw [bytN,List.length_cons,ih]
theorem bytN_snoc (w : Int) (n : Nat) : bytN w (n + 1) = bytN w n ++ [UInt8.ofNat (w / 256 ^ n % 256).toNat] := by
 induction n generalizing w with
 | zero => simp [bytN]
 | succ n ih =>
   rw [bytN,ih (w / 256),bytN,List.cons_append]
   have : w / 256 / 256 ^ n = w / 256 ^ (n + 1) := by
     rw [Int.pow_succ,Int.mul_comm,Int.ediv_ediv_of_nonneg (by decide)]
   rw [this]
def bytM : List Int -> List UInt8
 | [] => []
 | w :: r => bytN w 8 ++ bytM r
theorem bytM_len (l : List Int) : (bytM l).length = 8 * l.length := by
 induction l with
 | nil => rfl
 | cons w r ih => rw [bytM,List.length_append,bytN_len,ih,List.length_cons]; omega
theorem bytM_append (a b : List Int) : bytM (a ++ b) = bytM a ++ bytM b := by
 induction a with
 | nil => rfl
 | cons w r ih => rw [List.cons_append,bytM,ih,bytM,List.append_assoc]
def dotsM (s : ByteArray) : Bool := s.toList == [46] || s.toList == [46,46]
def plainM (l : List UInt8) : Bool := l.all fun b => b != 0 && b != 47
def nameM (s : ByteArray) : Int := if (s.toList == []) = true ∨ dotsM s = true ∨ plainM s.data.toList = false then 140 else if 120 < s.size then 141 else 0
theorem idxB_none (c : UInt8) : ∀ l : List UInt8,(idxB c l = none ↔ l.all (fun b => b != c) = true)
 | [] => by simp [idxB]
 | b :: r => by
   have ih := idxB_none c r
   by_cases h : b = c
   . simp [idxB,h]
   . have : (b == c) = false := by simp [h]
     simp only [idxB,this,Bool.false_eq_true,if_false,Option.map_eq_none_iff,ih,List.all_cons]
     simp [h]
def recOk (n : Int) (s : ByteArray) : Prop := 1 <= n /\ n <= 256 /\ nameM s = 0
instance (n : Int) (s : ByteArray) : Decidable (recOk n s) := inferInstanceAs (Decidable (_ /\ _ /\ _))
def wordsL (n : Int) (s : ByteArray) : List Int := (n + 65536 * (s.size : Int)) :: layM s.data.toList
def wordsM (n : Int) (s : ByteArray) : List Int := wordsL n s ++ List.replicate (16 - (wordsL n s).length) 0
theorem size_data (s : ByteArray) : s.data.toList.length = s.size := Array.length_toList
def textM (w : List Int) : ByteArray := ⟨((bytM (w.drop 1)).take (w.headD 0 / 65536).toNat).toArray⟩
def headM (w : List Int) : Int := w.headD 0 % 65536
def isM (w : List Int) : Prop := w.length = 16 /\ w.headD 0 / 65536 <= 120 /\ recOk (headM w) (textM w) /\ wordsM (headM w) (textM w) = w
instance (w : List Int) : Decidable (isM w) := inferInstanceAs (Decidable (_ /\ _ /\ _ /\ _))
end Go.Rec
namespace Go.Ino
open Go Go.Am Go.Rec
abbrev Ext := Int × Int × Int
def extA (x : Ext) : List AV := [.int .i64 x.1,.int .i64 x.2.1,.int .i64 x.2.2]
def i64A (j : Int) : List AV := [.int .i64 j]
instance : Even extA 3 := ⟨fun _ => rfl⟩
instance : Even i64A 1 := ⟨fun _ => rfl⟩
theorem hf_extA (l : List Ext) : hfL (encs extA l) = true := hfL_encs (fun _ => rfl) l
theorem hf_i64A (l : List Int) : hfL (encs i64A l) = true := hfL_encs (fun _ => rfl) l
theorem one_extA (l : List Ext) : allOne (encs extA l) = true := allOne_encs (fun _ => rfl) l
theorem one_i64A (l : List Int) : allOne (encs i64A l) = true := allOne_encs (fun _ => rfl) l
def rightM (x : Ext) : Prop := 0 <= x.1 /\ x.1 < 128 /\ 1 <= x.2.2 /\ x.2.2 <= 128 - x.1 /\ 1 <= x.2.1 /\ x.2.1 < 2048 /\ x.2.2 <= 2048 - x.2.1
instance (x : Ext) : Decidable (rightM x) := inferInstanceAs (Decidable (_ /\ _ /\ _ /\ _ /\ _ /\ _ /\ _))
def layN : Nat -> Int -> Int -> List Int -> Option (List Int)
 | 0,_,_,t => some t
 | n + 1,f,d,t => if t.getD f.toNat 0 ≠ 0 ∨ d ∈ t then none else layN n (f + 1) (d + 1) (t.set f.toNat d)
def layL : List Ext -> List Int -> Option (List Int)
 | [],t => some t
 | x :: r,t => if rightM x then (match layN x.2.2.toNat x.1 x.2.1 t with
   | some t' => layL r t'
   | none => none) else none
def addE (out : List Ext) (i d : Int) : List Ext :=
 match out.getLast? with
 | some l => if l.1 + l.2.2 = i /\ l.2.1 + l.2.2 = d then out.dropLast ++ [(l.1,l.2.1,l.2.2 + 1)] else out ++ [(i,d,1)]
 | none => [(i,d,1)]
def listF : List Int -> Int -> List Ext -> List Ext
 | [],_,out => out
 | d :: r,i,out => listF r (i + 1) (if d = 0 then out else addE out i d)
def listM (t : List Int) : List Ext := listF t 0 []
def t0 : List Int := List.replicate 128 0
def ofM (l : List Ext) : Option (List Int) :=
 if l.length <= 10 then (match layL l t0 with
   | some t => if listM t = l then some t else none
   | none => none) else none
structure Tab (t : List Int) : Prop where
 len : t.length = 128
 val : ∀ v ∈ t,0 <= v /\ v < 2048
theorem Tab.t0 : Tab t0 := ⟨List.length_replicate,fun v hv => by have := (List.mem_replicate.1 hv).2; omega⟩
theorem Tab.set {t : List Int} (h : Tab t) {i : Nat} {d : Int} (h0 : 0 <= d) (h1 : d < 2048) : Tab (t.set i d) :=
 ⟨by rw [List.length_set]; exact h.len,fun v hv => by
   rcases List.mem_or_eq_of_mem_set hv with h2 | h2
   . exact h.val v h2
   . omega⟩
theorem layN_tab : ∀ {n : Nat} {f d : Int} {t t' : List Int},Tab t -> 0 <= d -> d + n <= 2048 -> layN n f d t = some t' -> Tab t'
 | 0,_,_,_,_,h,_,_,e => by cases e; exact h
 | n + 1,f,d,t,t',h,h0,h1,e => by
   rw [layN] at e
   split at e
   . cases e
   . exact layN_tab (h.set h0 (by omega)) (by omega) (by omega) e
theorem layL_tab : ∀ {l : List Ext} {t t' : List Int},Tab t -> layL l t = some t' -> Tab t'
 | [],_,_,h,e => by cases e; exact h
 | x :: r,t,t',h,e => by
   rw [layL] at e
   split at e
   . rename_i hr
     split at e
     . rename_i t1 h1
       exact layL_tab (layN_tab h (by have := hr.2.2.2.2.1; omega) (by have := hr.2.2; omega) h1) e
     . cases e
   . cases e
theorem layL_right : ∀ {l : List Ext} {t t' : List Int},layL l t = some t' -> ∀ x ∈ l,rightM x
 | [],_,_,_ => by simp
 | y :: r,t,t',e => by
   rw [layL] at e
   split at e
   . rename_i hr
     split at e
     . intro x hx
       rcases List.mem_cons.1 hx with rfl | hx
       . exact hr
       . exact layL_right e x hx
     . cases e
   . cases e
theorem ofM_spec {l : List Ext} {t : List Int} (h : ofM l = some t) : l.length <= 10 /\ layL l t0 = some t /\ listM t = l := by
 unfold ofM at h
 split at h
 . rename_i h1
   split at h
   . rename_i t' h2
     split at h
     . rename_i h3; cases h; exact ⟨h1,h2,h3⟩
     . cases h
   . cases h
 . cases h
def wordE (x : Ext) : Int := x.1 + 65536 * x.2.1 + 1099511627776 * x.2.2
def wordsE (l : List Ext) : List Int := l.map wordE ++ List.replicate (10 - l.length) 0
def extW (w : Int) : Ext := (w % 65536,w / 65536 % 16777216,w / 1099511627776 % 65536)
def readE (ws : List Int) : List Ext := (ws.filter (· ≠ 0)).map extW
theorem wordsE_len {l : List Ext} (h : l.length <= 10) : (wordsE l).length = 10 := by
 rw [wordsE,List.length_append,List.length_map,List.length_replicate]; omega
structure Ino where
 kind : Int
 links : Int
 size : Int
 map : List Ext
 root : Int
 parent : Int
 target : ByteArray
def zeroI : Ino := ⟨0,0,0,[],0,0,⟨#[]⟩⟩
def flatM (l : List UInt8) : Bool := l.all fun b => b != 0
def tabOkI (t : List Int) (size : Int) : Bool := (List.range 128).all fun i => t.getD i 0 == 0 || decide (512 * (i : Int) < size)
def mapOk (l : List Ext) (size : Int) : Bool := match ofM l with
 | some t => tabOkI t size
 | none => false
def bodyI (n : Ino) : Prop :=
 (n.kind = 0 /\ n.links = 0 /\ n.size = 0 /\ n.map = [] /\ n.root = 0 /\ n.parent = 0 /\ n.target.toList = []) ∨
 (n.kind = 1 /\ n.root = 0 /\ n.parent = 0 /\ n.target.toList = [] /\ 0 <= n.size /\ n.size <= 65536 /\ mapOk n.map n.size = true) ∨
 (n.kind = 2 /\ n.size = 0 /\ n.map = [] /\ n.target.toList = [] /\ 1 <= n.root /\ n.root <= 2047 /\ 1 <= n.parent /\ n.parent <= 256) ∨
 (n.kind = 3 /\ n.size = 0 /\ n.map = [] /\ n.root = 0 /\ n.parent = 0 /\ 1 <= n.target.size /\ n.target.size <= 112 /\ flatM n.target.data.toList = true)
def okI (n : Ino) : Prop := 0 <= n.links /\ n.links <= 65535 /\ bodyI n
instance (n : Ino) : Decidable (bodyI n) := inferInstanceAs (Decidable (_ ∨ _ ∨ _ ∨ _))
instance (n : Ino) : Decidable (okI n) := inferInstanceAs (Decidable (_ /\ _ /\ _))
def tailI (n : Ino) : List Int :=
 if n.kind = 1 then n.size :: wordsE n.map
 else if n.kind = 2 then [0,n.root,n.parent]
 else if n.kind = 3 then (n.target.size : Int) :: layM n.target.data.toList
 else []
def wordsI (n : Ino) : List Int := (n.kind + 256 * n.links) :: (tailI n ++ List.replicate (15 - (tailI n).length) 0)
end Go.Ino
namespace Go.Proofs.YtogbblcnfcfflaaGreat
open Go Go.Am
def conPc : List AV -> Option PR
 | [.msl 1 id off n,.int .i64 a,.int .i64 m] => if 0 <= a /\ 0 < m /\ a + m <= n /\ n <= 1000000 then some (.plain (.msl 1 id (off + a.toNat) m.toNat)) else none
 | [.sl 1 n cs .ro,.int .i64 a,.int .i64 m] => if 0 <= a /\ 0 < m /\ a + m <= n /\ n <= 1000000 /\ n <= cs.length then some (.plain (.sl 1 m.toNat ((cs.take (a + m).toNat).drop a.toNat) .ro)) else none
 | [.sl 1 n cs (.own _),.int .i64 a,.int .i64 m] => if 0 <= a /\ 0 < m /\ a + m <= n /\ n <= 1000000 /\ n <= cs.length then some (.plain (.sl 1 m.toNat ((cs.take (a + m).toNat).drop a.toNat) .ro)) else none
 | _ => none
def conBlk : List AV -> Option PR
 | [x,.int .i64 b] => if 0 <= b /\ b <= 100000 then conPc [x,.int .i64 (b * 64),.int .i64 64] else none
 | _ => none
end Go.Proofs.YtogbblcnfcfflaaGreat
