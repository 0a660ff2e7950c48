/- ConN ConQ ConR ConO ConP -/
import Derived.Test.YtifcdjmcoibblaaGreatDoorFq10
import Derived.Test.YtifcdjmcoibblaaGreatDoorFq08
set_option linter.unusedVariables false
set_option linter.unusedSimpArgs false
set_option linter.unusedSectionVars false
namespace Go.Proofs.YtifcdjmcoibblaaGreatDoor
section
section
variable {D L E M:Type} [Dg D] [Inhabited L] [Dg E] [Inhabited M]
structure Ren (f:D→E) (g:L→M):Prop where
 inj:∀a b,f a=f b→a=b
 nil:f Dg.nil=Dg.nil
 lt:∀a b,Dg.lt (f a) (f b)=Dg.lt a b
 def_:g default=default
def Msg.ren (f:D→E) (g:L→M) (m:Msg D L):Msg E M:=⟨m.kind,m.frm,m.to,m.height,m.round,m.valid,f m.dig,g m.list⟩
def Val.ren (f:D→E) (g:L→M) (v:Val D L):Val E M:=⟨v.round,f v.dig,g v.list⟩
def mapV {κ β γ:Type} (h:β→γ) (l:List (κ×β)):List (κ×γ):=l.map fun p=>(p.1,h p.2)
def NS.ren (f:D→E) (g:L→M) (s:NS D L):NS E M:=
 {height:=s.height,round:=s.round,step:=s.step,clock:=s.clock,ticks:=s.ticks,lock:=s.lock.map (Val.ren f g),valid:=s.valid.map (Val.ren f g),own:=s.own.map (Val.ren f g),acc:=s.acc.map f,props:=mapV (Msg.ren f g) s.props,claims:=mapV (Msg.ren f g) s.claims,order:=s.order,votes:=mapV f s.votes,stand:=s.stand,mine:=s.mine.map (Msg.ren f g),made:=s.made,id:=s.id,n:=s.n,decs:=mapV (Val.ren f g) s.decs,ques:=s.ques,inf:=s.inf}
section
variable {κ β γ:Type} [DecidableEq κ]
theorem getA_ren (h:β→γ) (k:κ):∀l:List (κ×β),getA k (mapV h l)=(getA k l).map h
 | []=>rfl
 | p :: l=>by
  show (if p.1=k then some (h p.2) else getA k (mapV h l))=(if p.1=k then some p.2 else getA k l).map h;split
  ·rfl
  exact getA_ren h k l
theorem putA_ren (h:β→γ) (k:κ) (v:β):∀l:List (κ×β),mapV h (putA k v l)=putA k (h v) (mapV h l)
 | []=>rfl
 | p :: l=>by
  show mapV h (if p.1=k then (k,v) :: l else p :: putA k v l)=(if p.1=k then (k,h v) :: mapV h l else (p.1,h p.2) :: putA k (h v) (mapV h l));split
  ·rfl
  rw [←putA_ren h k v l];rfl
theorem mapV_keys (h:β→γ) (l:List (κ×β)):(mapV h l).map (·.1)=l.map (·.1):=by unfold mapV;simp
end
theorem firstR_ren {α β:Type} {f:Nat→Option α} {h:α→β} {f2:Nat→Option β} (e:∀i,f2 i=(f i).map h):∀n,firstR f2 n=(firstR f n).map h
 | 0=>rfl
 | n+1=>by
  unfold firstR;rw [firstR_ren e n];rcases firstR f n with _ | a
  ·exact e n
  rfl
variable {f:D→E} {g:L→M}
theorem mem_ren (r:Ren f g) {d:D} {l:List D}:f d∈l.map f↔d∈l:=by
 rw [List.mem_map];constructor
 ·rintro ⟨a,h,e⟩;exact r.inj _ _ e ▸ h
 intro h;exact ⟨d,h,rfl⟩
theorem insA_ren (r:Ren f g) (d:D) (l:List D):(insA d l).map f=insA (f d) (l.map f):=by
 unfold insA;by_cases h:d∈l
 ·rw [if_pos h,if_pos ((mem_ren r).2 h)]
 rw [if_neg h,if_neg (fun q=>h ((mem_ren r).1 q))];simp
theorem keepA_ren (l:List (Int×Msg D L)) (k:Int) (m:Msg D L):mapV (Msg.ren f g) (keepA l k m)=keepA (mapV (Msg.ren f g) l) k (m.ren f g):=by
 unfold keepA;rw [getA_ren];rcases getA k l with _ | x
 ·exact putA_ren _ _ _ _
 rfl
theorem putVote_ren (s:NS D L) (m:Msg D L):(s.putVote m).ren f g=(s.ren f g).putVote (m.ren f g):=by
 unfold NS.putVote;have:getA ((m.ren f g).frm,(m.ren f g).kind,(m.ren f g).height,(m.ren f g).round) (s.ren f g).votes=(getA (m.frm,m.kind,m.height,m.round) s.votes).map f:=getA_ren f _ _;rw [this];rcases getA (m.frm,m.kind,m.height,m.round) s.votes with _ | x
 ·simp only [Option.map_none,NS.ren,Msg.ren,putA_ren];rfl
 rfl
theorem say_ren (s:NS D L) (m:Msg D L):(s.say m).ren f g=(s.ren f g).say (m.ren f g):=by
 unfold NS.say;simp only;by_cases h:m.kind=3
 ·rw [if_pos h,if_pos (show (m.ren f g).kind=3 from h)];simp only [NS.ren,Msg.ren,keepA_ren,List.map_append,List.map_cons,List.map_nil]
 rw [if_neg h,if_neg (show ¬(m.ren f g).kind=3 from h),putVote_ren];simp only [NS.ren,Msg.ren,List.map_append,List.map_cons,List.map_nil]
theorem vote_ren (r:Ren f g) (k rd:Int) (d:D):(vote k rd d:Msg D L).ren f g=vote k rd (f d):=by
 unfold vote Msg.ren;simp only;rw [r.def_]
theorem enter_ren (s:NS D L) (k:Int):(s.enter k).ren f g=(s.ren f g).enter k:=rfl
theorem cast_ren (r:Ren f g) (s:NS D L) (k:Int) (d:D) (st:Int):(s.cast k d st).ren f g=(s.ren f g).cast k (f d) st:=by
 unfold NS.cast;rw [enter_ren,say_ren,vote_ren r];rfl
theorem voters_ren (n:Nat) (votes:List (Bal×D)) (k h rd:Int):voters n (mapV f votes) k h rd=(voters n votes k h rd).map f:=by
 unfold voters;rw [List.map_filterMap];congr 1
 funext i
 rw [getA_ren]
theorem count_ren (r:Ren f g) (d:D) (l:List D):(l.map f).count (f d)=l.count d:=by
 induction l with
 | nil=>rfl
 | cons a t ih=>
  rw [List.map_cons,List.count_cons,List.count_cons,ih];by_cases h:a=d
  ·subst h;simp
  have:f a≠f d:=fun q=>h (r.inj _ _ q);simp [h,this]
theorem mostL_ren (r:Ren f g) (l:List D):mostL (l.map f)=(f (mostL l).1,(mostL l).2):=by
 unfold mostL;rw [List.foldl_map];have:∀(t:List D) (b:D×Int),t.foldl (fun (b:E×Int) (d:D)=>if b.2<((l.map f).count (f d):Int)∨(((l.map f).count (f d):Int)=b.2∧Dg.lt (f d) b.1=true) then (f d,((l.map f).count (f d):Int)) else b) (f b.1,b.2) =
   (f (t.foldl (fun b d=>if b.2<(l.count d:Int)∨((l.count d:Int)=b.2∧Dg.lt d b.1=true) then (d,(l.count d:Int)) else b) b).1,(t.foldl (fun b d=>if b.2<(l.count d:Int)∨((l.count d:Int)=b.2∧Dg.lt d b.1=true) then (d,(l.count d:Int)) else b) b).2):=by
  intro t;induction t with
  | nil=>intro b;rfl
  | cons x t ih=>
   intro b;rw [List.foldl_cons,List.foldl_cons,←ih];congr 1
   simp only [count_ren r,r.lt];split <;> rfl
 rw [←this l (Dg.nil,0)];simp only [r.nil]
theorem most_ren (r:Ren f g) (s:NS D L) (k rd:Int):(s.ren f g).most k rd=(f (s.most k rd).1,(s.most k rd).2):=by
 unfold NS.most;rw [←mostL_ren r,←voters_ren];rfl
theorem ncount_ren (r:Ren f g) (s:NS D L) (k rd:Int) (d:D):(s.ren f g).count k rd (f d)=s.count k rd d:=by
 unfold NS.count;rw [←count_ren r,←voters_ren];rfl
theorem chosen_ren (r:Ren f g) (s:NS D L) (k rd:Int):(s.ren f g).chosen k rd=(s.chosen k rd).map f:=by
 unfold NS.chosen;simp only [most_ren r];by_cases h:(s.most k rd).1≠Dg.nil∧quorumN s.n≤(s.most k rd).2
 ·rw [if_pos h,if_pos]
  ·rfl
  exact ⟨fun q=>h.1 (r.inj _ _ (by rw [q,r.nil])),h.2⟩
 rw [if_neg h,if_neg]
 ·rfl
 rintro ⟨h1,h2⟩;exact h ⟨fun q=>h1 (by rw [q,r.nil]),h2⟩
theorem listOf_ren (r:Ren f g) (d:D):∀l:List (Int×Msg D L),listOf (f d) (mapV (Msg.ren f g) l)=(listOf d l).map g
 | []=>rfl
 | p :: l=>by
  show (if f p.2.dig=f d then some (g p.2.list) else listOf (f d) (mapV (Msg.ren f g) l))=(if p.2.dig=d then some p.2.list else listOf d l).map g;by_cases h:p.2.dig=d
  ·rw [if_pos h,if_pos (by rw [h])];rfl
  rw [if_neg h,if_neg (fun q=>h (r.inj _ _ q))];exact listOf_ren r d l
theorem known_ren (r:Ren f g) (s:NS D L) (d:D):(s.ren f g).known (f d)=(s.known d).map g:=by
 unfold NS.known;have h1:listOf (f d) (s.ren f g).props=(listOf d s.props).map g:=listOf_ren r d _;have h2:listOf (f d) (s.ren f g).claims=(listOf d s.claims).map g:=listOf_ren r d _;have h3:(s.ren f g).lock=s.lock.map (Val.ren f g):=rfl;rw [h1,h2,h3];rcases listOf d s.props with _ | a
 ·rcases listOf d s.claims with _ | b
  ·rcases s.lock with _ | v
   ·rfl
   simp only [Option.map_none,Option.map_some,Val.ren];by_cases h:v.dig=d
   ·rw [if_pos h,if_pos (by rw [h])];rfl
   rw [if_neg h,if_neg (fun q=>h (r.inj _ _ q))];rfl
  rfl
 rfl
theorem chosenList_ren (r:Ren f g) (s:NS D L) (k rd:Int):(s.ren f g).chosenList k rd=(s.chosenList k rd).map (Val.ren f g):=by
 unfold NS.chosenList;rw [chosen_ren r];rcases s.chosen k rd with _ | d
 ·rfl
 simp only [Option.map_some,known_ren r];rcases s.known d with _ | l <;> rfl
theorem countD_ren (r:Ren f g) (d:D) (l:List (Int×Msg D L)):countD (f d) (mapV (Msg.ren f g) l)=countD d l:=by
 unfold countD mapV;rw [List.filter_map,List.length_map];congr 2
 refine List.filter_congr fun x hx=>?_;simp only [Function.comp,Msg.ren];by_cases h:x.2.dig=d
 ·simp [h]
 have:f x.2.dig≠f d:=fun q=>h (r.inj _ _ q);simp [h,this]
theorem claimed_ren (r:Ren f g) (s:NS D L):∀l:List Int,claimed (s.ren f g) l=(claimed s l).map (Msg.ren f g)
 | []=>rfl
 | x :: l=>by
  have h1:getA x (s.ren f g).claims=(getA x s.claims).map (Msg.ren f g):=getA_ren _ _ _;have h2:∀m:Msg D L,countD (m.ren f g).dig (s.ren f g).claims=countD m.dig s.claims:=fun m=>countD_ren r m.dig s.claims;have h3:(s.ren f g).n=s.n:=rfl;have ih:=claimed_ren r s l;unfold claimed;rw [h1];rcases getA x s.claims with _ | m
  ·exact ih
  simp only [Option.map_some,h2,h3];split
  ·rfl
  exact ih
theorem rule_ren (r:Ren f g) (s:NS D L) (k:Nat):(s.ren f g).rule k=(s.rule k).map (NS.ren f g):=by
 have hn:(s.ren f g).n=s.n:=rfl;have hr:(s.ren f g).round=s.round:=rfl;have hs:(s.ren f g).step=s.step:=rfl;have hm:(s.ren f g).made=s.made:=rfl;have hl:(s.ren f g).late=s.late:=rfl;have hdec:∀v:Val D L,({s with decs:=putA s.height v s.decs}:NS D L).ren f g = {s.ren f g with decs:=putA s.height (v.ren f g) (s.ren f g).decs}:=fun v=>by
  simp only [NS.ren,putA_ren]
 unfold NS.rule;split
 ·unfold NS.rDecide;have ho:(s.ren f g).order=s.order:=rfl;rw [ho,claimed_ren r,firstR_ren (f:=fun (i:Nat)=>s.chosenList 5 i) (h:=Val.ren f g) (fun i=>chosenList_ren r s 5 i)];rcases claimed s s.order with _ | m
  ·rcases firstR (fun (i:Nat)=>s.chosenList 5 i) 100 with _ | v
   ·rfl
   simp only [Option.map_none,Option.map_some,hdec];rfl
  simp only [Option.map_some,hdec];rfl
 ·unfold NS.rSpread;rw [hr];refine firstR_ren (fun i=>?_) _;simp only [most_ren r,hm,hn];by_cases h:((6:Int),(i:Int))∉s.made∧(s.most 6 i).1≠Dg.nil∧faultsN s.n<(s.most 6 i).2
  ·rw [if_pos h,if_pos ⟨h.1,fun q=>h.2.1 (r.inj _ _ (by rw [q,r.nil])),h.2.2⟩];simp only [Option.map_some,say_ren,vote_ren r]
  rw [if_neg h,if_neg (fun q=>h ⟨q.1,fun e=>q.2.1 (by rw [e,r.nil]),q.2.2⟩)];rfl
 ·unfold NS.rValidate;have hle:(s.ren f g).least=s.least:=by unfold NS.least;show (match s.valid.map (Val.ren f g) with | some v=>v.round | none=>-1)=_;rcases s.valid with _ | v <;> rfl
  rw [hr,hle];refine firstR_ren (fun i=>?_) _;rw [chosenList_ren r];rcases s.chosenList 6 (s.round - i) with _ | v <;> rfl
 ·unfold NS.rFollow;rw [hr];refine firstR_ren (fun i=>?_) _;have hp:∀q,(s.ren f g).passed q=s.passed q:=fun q=>rfl;simp only [hp,hn];split
  ·simp only [Option.map_some,cast_ren r,r.nil];rfl
  rfl
 ·unfold NS.rPropose;have ht:(s.ren f g).toPropose=s.toPropose.map (Val.ren f g):=by
   unfold NS.toPropose;have hv:(s.ren f g).valid=s.valid.map (Val.ren f g):=rfl;rw [hv];rcases s.valid with _ | v
   ·rfl
   simp only [Option.map_some,hr];show (if v.round<s.round then some (v.ren f g) else s.own.map (Val.ren f g))=_;split <;> rfl
  have hp:∀a b c,(s.ren f g).proposer a b c=s.proposer a b c:=fun _ _ _=>rfl;have hi:(s.ren f g).id=s.id:=rfl;have hh:(s.ren f g).height=s.height:=rfl;rw [ht];rcases s.toPropose with _ | v
  ·rfl
  simp only [Option.map_some,hr,hs,hm,hp,hi,hh];split
  ·rfl
  simp only [Option.map_some,say_ren];rfl
 ·unfold NS.rPrevote;have hp:getA s.round (s.ren f g).props=(getA s.round s.props).map (Msg.ren f g):=getA_ren _ _ _;rw [hr,hp];rcases getA s.round s.props with _ | p
  ·rfl
  have ha:(p.ren f g).dig∉(s.ren f g).acc↔p.dig∉s.acc:=not_congr (mem_ren r);have hc:(s.ren f g).count 6 p.valid (p.ren f g).dig=s.count 6 p.valid p.dig:=ncount_ren r s 6 p.valid p.dig;have hv:(p.ren f g).valid=p.valid:=rfl;have hlk:(s.ren f g).lock=s.lock.map (Val.ren f g):=rfl;simp only [Option.map_some,ha,hc,hs,hn,hv,hlk];by_cases q1:s.step≠1∨p.dig∉s.acc
  ·rw [if_pos q1,if_pos q1];rfl
  rw [if_neg q1,if_neg q1];by_cases q2:0≤p.valid∧s.count 6 p.valid p.dig≤faultsN s.n
  ·rw [if_pos q2,if_pos q2];rfl
  rw [if_neg q2,if_neg q2];simp only [Option.map_some,cast_ren r];congr 2
  rcases s.lock with _ | v
  ·rfl
  simp only [Option.map_some,Val.ren];by_cases h:v.dig≠p.dig∧p.valid<v.round
  ·rw [if_pos h,if_pos ⟨fun q=>h.1 (r.inj _ _ q),h.2⟩,r.nil]
  rw [if_neg h,if_neg (fun q=>h ⟨fun e=>q.1 (by rw [e];rfl),q.2⟩)];rfl
 ·unfold NS.rMiss;rw [hs,hl];split
  ·rfl
  simp only [Option.map_some,cast_ren r,r.nil]
 ·unfold NS.rKey;rw [hr,chosen_ren r];rcases s.chosen 4 s.round with _ | d
  ·rfl
  simp only [Option.map_some,hs,hm];split
  ·rfl
  have e1:(s.ren f g).say (vote 6 s.round (f d))=(s.say (vote 6 s.round d)).ren f g:=by rw [say_ren,vote_ren r]
  rw [e1];show some (if (s.say (vote 6 s.round d)).step=2 then _ else _)=_;simp only [Option.map_some];split <;> rfl
 ·unfold NS.rWait;have hc:(s.ren f g).count 4 s.round Dg.nil=s.count 4 s.round Dg.nil:=by rw [←r.nil];exact ncount_ren r s 4 s.round Dg.nil
  rw [hs,hm,hr,hl,hc,hn];split
  ·rfl
  split
  ·rfl
  split
  ·simp only [Option.map_some,cast_ren r,r.nil]
  rfl
 ·unfold NS.rSeal;rw [hr,chosenList_ren r];rcases s.chosenList 6 s.round with _ | v
  ·rfl
  simp only [Option.map_some,hs];split
  ·rfl
  simp only [Option.map_some,cast_ren r];rfl
 ·unfold NS.rLeave;rw [hs,hl];split
  ·rfl
  simp only [Option.map_some,cast_ren r,r.nil]
 ·unfold NS.rNext;rw [hs,hl,hr];split
  ·rfl
  rfl
 rfl
theorem stepS_ren (r:Ren f g) (s:NS D L):(s.ren f g).stepS=s.stepS.map (NS.ren f g):=firstR_ren (rule_ren r s) 12
theorem isDec_ren (s:NS D L) (h:Int):(s.ren f g).isDec h=s.isDec h:=by
 unfold NS.isDec;have:getA h (s.ren f g).decs=(getA h s.decs).map (Val.ren f g):=getA_ren _ _ _;rw [this];rcases getA h s.decs with _ | v <;> rfl
theorem run_ren (r:Ren f g):∀(k:Nat) (s:NS D L),NS.runS k (s.ren f g)=(NS.runS k s).ren f g
 | 0,s=>rfl
 | k+1,s=>by
  unfold NS.runS;have:(s.ren f g).isDec (s.ren f g).height=s.isDec s.height:=isDec_ren s s.height;rw [this];split
  ·rfl
  rw [stepS_ren r];rcases s.stepS with _ | t
  ·rfl
  exact run_ren r k t
theorem apply_ren (r:Ren f g) (s:NS D L):(s.ren f g).apply=s.apply.ren f g:=by
 unfold NS.apply;have:(s.ren f g).mu=s.mu:=by
  unfold NS.mu NS.least;show _+(100 - (match s.valid.map (Val.ren f g) with | some v=>v.round | none=>-1)).toNat=_;rcases s.valid with _ | v <;> rfl
 rw [this];exact run_ren r _ s
theorem sends_ren (s:NS D L) (ms:List (Msg D L)):(s.ren f g).sends (ms.map (Msg.ren f g))=(s.sends ms).map (Msg.ren f g):=by
 unfold NS.sends;rw [List.flatMap_map,List.map_flatMap];congr 1
 funext m
 rw [List.map_filterMap];congr 1
 funext i
 show (if (i:Int)≠s.id then _ else _)=_;split <;> rfl
theorem decDig_ren (r:Ren f g) (s:NS D L) (h:Int):(s.ren f g).decDig h=f (s.decDig h):=by
 unfold NS.decDig;have:getA h (s.ren f g).decs=(getA h s.decs).map (Val.ren f g):=getA_ren _ _ _;rw [this];rcases getA h s.decs with _ | v
 ·exact r.nil.symm
 rfl
theorem decList_ren (r:Ren f g) (s:NS D L) (h:Int):(s.ren f g).decList h=g (s.decList h):=by
 unfold NS.decList;have:getA h (s.ren f g).decs=(getA h s.decs).map (Val.ren f g):=getA_ren _ _ _;rw [this];rcases getA h s.decs with _ | v
 ·exact r.def_.symm
 rfl
theorem answers_ren (r:Ren f g) (s:NS D L):(s.ren f g).answers=s.answers.map (Msg.ren f g):=by
 unfold NS.answers;rw [List.map_flatMap];have hq:(s.ren f g).ques=s.ques:=rfl;rw [hq];congr 1
 funext x
 rcases getA x s.ques with _ | q
 ·rfl
 unfold NS.answer;have hc:(s.ren f g).claimRound q.1 q.2=s.claimRound q.1 q.2:=rfl;have hi:(s.ren f g).id=s.id:=rfl;simp only [decDig_ren r,decList_ren r,hc,hi,List.map_append,List.map_cons,List.map_nil,List.map_map];congr 1
 ·congr 1
  ·simp [Msg.ren,r.def_]
  refine List.map_congr_left fun i _=>?_;simp [Function.comp,Msg.ren,r.def_]
 simp [Msg.ren,r.def_]
theorem tick_ren (r:Ren f g) (s:NS D L):(s.ren f g).tick=(s.tick.1.ren f g,s.tick.2.map (Msg.ren f g)):=by
 unfold NS.tick;have ha:=answers_ren r s;have e0:({s.ren f g with ques:=[]}:NS E M)=({s with ques:=[]}:NS D L).ren f g:=rfl;simp only [e0,ha];obtain ⟨s0,h0⟩:∃s0:NS D L,{s with ques:=[]}=s0:=⟨_,rfl⟩;rw [h0];have hh:(s0.ren f g).isDec (s.ren f g).height=s0.isDec s.height:=isDec_ren s0 s.height;have h1:(s0.ren f g).ticked=s0.ticked.ren f g:=rfl;simp only [hh,h1,apply_ren r];by_cases q1:s0.isDec s.height=true
 ·rw [if_pos q1,if_pos q1]
 rw [if_neg q1,if_neg q1];have h2:(s0.ticked.apply.ren f g).ticks=s0.ticked.apply.ticks:=rfl;have h3:(s0.ticked.apply.ren f g).mine=s0.ticked.apply.mine.map (Msg.ren f g):=rfl;have h4:(s0.ticked.ren f g).mine.length=s0.ticked.mine.length:=by show (s0.ticked.mine.map _).length=_;simp
 simp only [h2,h3,h4,←List.map_drop,sends_ren,List.map_append]
theorem ask_ren (r:Ren f g) (s:NS D L) (m:Msg D L):(s.ren f g).ask (m.ren f g)=(s.ask m).ren f g:=by
 unfold NS.ask;have h1:(m.ren f g).dig=(s.ren f g).decDig m.height↔m.dig=s.decDig m.height:=by
  rw [decDig_ren r];exact ⟨fun h=>r.inj _ _ h,fun h=>by rw [←h];rfl⟩
 have h2:∀a b c,(s.ren f g).proposer a b c=s.proposer a b c:=fun _ _ _=>rfl;have h3:(s.ren f g).ques=s.ques:=rfl;have h4:(s.ren f g).inf=s.inf:=rfl;have h5:(m.ren f g).frm=m.frm:=rfl;have h6:(m.ren f g).height=m.height:=rfl;have h7:(m.ren f g).kind=m.kind:=rfl;have h8:(m.ren f g).round=m.round:=rfl;simp only [h6] at h1 ⊢;simp only [h1,h2,h3,h4,h5,h7,h8];by_cases q1:m.kind=3∧s.proposer m.frm m.height m.round=false∧m.dig=s.decDig m.height
 ·rw [if_pos q1,if_pos q1];rfl
 rw [if_neg q1,if_neg q1];by_cases q2:(m.height,m.frm)∈s.inf
 ·rw [if_pos q2,if_pos q2]
 rw [if_neg q2,if_neg q2];rcases getA m.frm s.ques with _ | q
 ·rfl
 simp only;split <;> rfl
theorem receive_ren (r:Ren f g) (s:NS D L) (m:Msg D L) (ok:Bool):(s.ren f g).receive (m.ren f g) ok=(s.receive m ok).ren f g:=by
 unfold NS.receive;have h1:(s.ren f g).isDec (m.ren f g).height=s.isDec m.height:=isDec_ren s m.height;have h2:(s.ren f g).proposer (m.ren f g).frm (m.ren f g).height (m.ren f g).round=s.proposer m.frm m.height m.round:=rfl;have h3:getA m.frm (s.ren f g).claims=(getA m.frm s.claims).map (Msg.ren f g):=getA_ren _ _ _;rw [h1,h2,ask_ren r,←putVote_ren];show (if ok=false∨m.to≠s.id∨s.n≤m.frm∨s.height<m.height then _ else if ¬(m.kind=3∨m.kind=4∨m.kind=6∨m.kind=5) then _ else if _ then _ else if m.height<s.height then _ else if m.kind≠3 then _ else if _ then _ else match getA m.frm (s.ren f g).claims with | some _=>_ | none=>_)=_;rw [h3];split
 ·rfl
 split
 ·rfl
 split
 ·rfl
 split
 ·rfl
 split
 ·rfl
 split
 ·simp only [NS.ren,keepA_ren];rfl
 rcases getA m.frm s.claims with _ | x
 ·simp only [Option.map_none,NS.ren,putA_ren];rfl
 rfl
theorem begin_ren (r:Ren f g) (s:NS D L) (k:Int) (ok:Bool) (d:D) (l:L):(s.ren f g).begin k ok (f d) (g l)=((s.begin k ok d l).1.ren f g,(s.begin k ok d l).2):=by
 unfold NS.begin;have h1:∀h,(s.ren f g).isDec h=s.isDec h:=fun h=>isDec_ren s h;have h2:(s.ren f g).height=s.height:=rfl;have h3:(s.ren f g).own.isNone=s.own.isNone:=by show (s.own.map _).isNone=_;rcases s.own with _ | v <;> rfl
 simp only [h1,h2,h3];split
 ·rfl
 split
 ·simp only [NS.ren,insA_ren r];rfl
 split <;> rfl
theorem accept_ren (r:Ren f g) (s:NS D L) (d:D):(s.ren f g).accept (f d)=(s.accept d).ren f g:=by
 unfold NS.accept;simp only [NS.ren,insA_ren r]
theorem askedL_ren (r:Ren f g) (props:List (Int×Msg D L)):∀(l:List Int) (seen:List D),askedL (mapV (Msg.ren f g) props) l (seen.map f)=(askedL props l seen).map g
 | [],seen=>rfl
 | x :: l,seen=>by
  unfold askedL;rw [getA_ren];rcases getA x props with _ | m
  ·exact askedL_ren r props l seen
  simp only [Option.map_some];have:(m.ren f g).dig∈seen.map f↔m.dig∈seen:=mem_ren r;by_cases h:m.dig∈seen
  ·rw [if_pos h,if_pos (this.2 h)];exact askedL_ren r props l seen
  rw [if_neg h,if_neg (fun q=>h (this.1 q)),List.map_cons,←askedL_ren r props l (m.dig :: seen)];rfl
theorem asked_ren (r:Ren f g) (s:NS D L):(s.ren f g).asked=s.asked.map g:=by
 unfold NS.asked;have:(s.ren f g).isDec (s.ren f g).height=s.isDec s.height:=isDec_ren s s.height;rw [this];split
 ·rfl
 have h1:(s.ren f g).props=mapV (Msg.ren f g) s.props:=rfl;have h2:(s.ren f g).acc=s.acc.map f:=rfl;rw [h1,h2,mapV_keys,askedL_ren r]
theorem new_ren (id n:Int):(newS id n:NS E M)=(newS id n:NS D L).ren f g:=rfl
end
end
section
variable {D L:Type} [Dg D] [Inhabited L]
theorem firstR_less {α:Type} {f:Nat→Option α} {k:Nat}:∀{n:Nat},k≤n→(∀i,k≤i→i<n→f i=none)→firstR f n=firstR f k
 | 0,h,_=>by have:k=0:=by omega
             subst this;rfl
 | n+1,h,hf=>by
  rcases Nat.lt_or_ge n k with q | q
  ·have:k=n+1:=by omega
   subst this;rfl
  show (match firstR f n with | some a=>some a | none=>f n)=_;rw [firstR_less q (fun i a b=>hf i a (by omega)),hf n q (by omega)];rcases firstR f k with _ | a <;> rfl
def topV (votes:List (Bal×D)):Nat:=votes.foldl (fun a p=>max a (p.1.2.2.2.toNat+1)) 0
theorem topV_le (votes:List (Bal×D)):∀p∈votes,p.1.2.2.2.toNat+1≤topV votes:=by
 unfold topV;have h1:∀(l:List (Bal×D)) (a:Nat),a≤l.foldl (fun a p=>max a (p.1.2.2.2.toNat+1)) a:=by
  intro l;induction l with
  | nil=>intro a;exact Nat.le_refl _
  | cons p l ih=>intro a;rw [List.foldl_cons];exact Nat.le_trans (Nat.le_max_left _ _) (ih _)
 have:∀(l:List (Bal×D)) (a:Nat),∀p∈l,p.1.2.2.2.toNat+1≤l.foldl (fun a p=>max a (p.1.2.2.2.toNat+1)) a:=by
  intro l;induction l with
  | nil=>intro a p hp;cases hp
  | cons q l ih=>
   intro a p hp;rw [List.foldl_cons];rcases List.mem_cons.1 hp with rfl | hp
   ·exact Nat.le_trans (Nat.le_max_right _ _) (h1 _ _)
   exact ih _ p hp
 exact this votes 0
theorem voters_top {votes:List (Bal×D)} {r:Nat} (h:topV votes≤r) (n:Nat) (k hh:Int):voters n votes k hh (r:Int) = []:=by
 rcases hv:voters n votes k hh (r:Int) with _ | ⟨d,t⟩
 ·rfl
 exfalso;obtain ⟨i,_,hg⟩:=mem_voters (n:=n) (votes:=votes) (kind:=k) (height:=hh) (round:=r) (d:=d) (by rw [hv];simp);have:=topV_le votes _ (getA_mem hg);simp at this;omega
theorem chosen_top {s:NS D L} {r:Nat} (h:topV s.votes≤r) (k:Int):s.chosen k (r:Int)=none:=by
 unfold NS.chosen NS.most;rw [voters_top h];simp [mostL]
def NS.fDecide (s:NS D L):Option (NS D L):=
 match claimed s s.order with
 | some m=>some {s with decs:=putA s.height ⟨-1,m.dig,m.list⟩ s.decs}
 | none=>match firstR (fun r=>s.chosenList 5 r) (min 100 (topV s.votes)) with
  | some v=>some {s with decs:=putA s.height v s.decs}
  | none=>none
theorem fDecide_eq (s:NS D L):s.fDecide=s.rDecide:=by
 unfold NS.fDecide NS.rDecide;rw [firstR_less (f:=fun (r:Nat)=>s.chosenList 5 r) (k:=min 100 (topV s.votes)) (n:=100) (Nat.min_le_left _ _) (fun i h1 h2=>by
  unfold NS.chosenList;rw [chosen_top (by omega)])]
 rcases claimed s s.order with _ | m
 ·rcases firstR (fun (r:Nat)=>s.chosenList 5 r) (min 100 (topV s.votes)) with _ | v <;> rfl
 rfl
def topS (stand:List (Int×(Int×Int))):Nat:=stand.foldl (fun a p=>max a (max p.2.1.toNat p.2.2.toNat)) 0
theorem topS_le (l:List (Int×(Int×Int))):∀p∈l,p.2.1.toNat≤topS l∧p.2.2.toNat≤topS l:=by
 unfold topS;have h1:∀(l:List (Int×(Int×Int))) (a:Nat),a≤l.foldl (fun a p=>max a (max p.2.1.toNat p.2.2.toNat)) a:=by
  intro l;induction l with
  | nil=>intro a;exact Nat.le_refl _
  | cons p l ih=>intro a;rw [List.foldl_cons];exact Nat.le_trans (Nat.le_max_left _ _) (ih _)
 have:∀(l:List (Int×(Int×Int))) (a:Nat),∀p∈l,p.2.1.toNat≤l.foldl (fun a p=>max a (max p.2.1.toNat p.2.2.toNat)) a∧p.2.2.toNat≤l.foldl (fun a p=>max a (max p.2.1.toNat p.2.2.toNat)) a:=by
  intro l;induction l with
  | nil=>intro a p hp;cases hp
  | cons q l ih=>
   intro a p hp;rw [List.foldl_cons];rcases List.mem_cons.1 hp with rfl | hp
   ·have:=h1 l (max a (max p.2.1.toNat p.2.2.toNat));omega
   exact ih _ p hp
 exact this l 0
def NS.fFollow (s:NS D L):Option (NS D L):=
 let t:=min 99 (topS s.stand)
 firstR (fun i=>if faultsN s.n<s.passed ((t:Int) - i) then some ({s with round:=(t:Int) - i}.cast 5 Dg.nil 4) else none) ((t:Int) - s.round).toNat
theorem fFollow_eq {s:NS D L} (hn:1≤s.n) (hr:0≤s.round):s.fFollow=s.rFollow:=by
 unfold NS.fFollow NS.rFollow;simp only;obtain ⟨t,ht⟩:∃t,min 99 (topS s.stand)=t:=⟨_,rfl⟩;rw [ht];have hz:∀q:Int,(t:Int)<q→q≤99→¬faultsN s.n<s.passed q:=fun q h1 h2=>by
  have hf:0≤faultsN s.n:=by unfold faultsN;omega
  have:s.passed q=0:=by
   unfold NS.passed;rw [List.filter_eq_nil_iff.2 (fun p hp=>?_)]
   ·rfl
   have:=topS_le s.stand p hp;simp;omega
  omega
 by_cases hlt:(t:Int)≤s.round
 ·rw [show ((t:Int) - s.round).toNat=0 by omega];show none=_;symm
  refine firstR_none (fun i hi=>?_);rw [if_neg (hz _ (by omega) (by omega))]
 have hk:(99 - s.round).toNat=(99 - t)+((t:Int) - s.round).toNat:=by omega
 have hshift:∀(f g:Nat→Option (NS D L)) (k n:Nat),(∀i,i<k→f i=none)→(∀i,f (k+i)=g i)→firstR g n=firstR f (k+n):=by
  intro f g k n h1 h2;induction n with
  | zero=>rw [Nat.add_zero,firstR_none h1];rfl
  | succ n ih=>
   rw [←Nat.add_assoc,firstR_succ,firstR_succ,ih,h2]
 rw [hk];refine hshift _ _ _ _ (fun i hi=>?_) (fun i=>?_)
 ·rw [if_neg (hz _ (by omega) (by omega))]
 have:(99:Int) - ((99 - t+i:Nat):Int)=(t:Int) - i:=by omega
 rw [this]
def NS.ruleF (s:NS D L):Nat→Option (NS D L)
 | 0=>s.fDecide | 1=>s.rSpread | 2=>s.rValidate | 3=>s.fFollow | 4=>s.rPropose | 5=>s.rPrevote
 | 6=>s.rMiss | 7=>s.rKey | 8=>s.rWait | 9=>s.rSeal | 10=>s.rLeave | 11=>s.rNext | _=>none
def NS.stepF (s:NS D L):Option (NS D L):=firstR s.ruleF 12
def NS.runF:Nat→NS D L→NS D L
 | 0,s=>s
 | k+1,s=>if s.isDec s.height then s else match s.stepF with
  | none=>s
  | some s'=>NS.runF k s'
theorem stepF_eq {sz:D→Prop} {s:NS D L} (h:InvS sz s):s.stepF=s.stepS:=by
 unfold NS.stepF NS.stepS;congr 1
 funext k
 rcases k with _ | _ | _ | _ | _ | _ | _ | _ | _ | _ | _ | _ | k
 ·exact fDecide_eq s
 ·rfl
 ·rfl
 ·exact fFollow_eq h.num.n1 h.num.r0
 all_goals rfl
theorem runF_eq {sz:D→Prop}:∀(k:Nat) {s:NS D L},InvS sz s→NS.runF k s=NS.runS k s
 | 0,s,_=>rfl
 | k+1,s,h=>by
  unfold NS.runF NS.runS;rw [stepF_eq h];split
  ·rfl
  rcases he:s.stepS with _ | t
  ·rfl
  exact runF_eq k (step_inv h he).1
theorem mu_le (s:NS D L) {sz:D→Prop} (h:InvS sz s):s.mu≤804:=by
 have:=openK_le 6 s.made 100;have:=openK_le 3 s.made 100;have:=h.num.r0;have:=h.num.st1;have:-1≤s.least:=by
  unfold NS.least;split
  ·rename_i v hv;have:=h.num.vr v hv;omega
  omega
 unfold NS.mu;omega
def NS.tickF (s0:NS D L):NS D L×List (Msg D L):=
 let out:=s0.answers
 let s:={s0 with ques:=[]}
 if s.isDec s.height then (s,out)
 else
  let s1:=s.ticked
  let s2:=NS.runF 900 s1
  (s2,out ++ s2.sends (s2.mine.drop (if s2.ticks % 4=0 then 0 else s1.mine.length)))
theorem tickF_eq {sz:D→Prop} {s:NS D L} (h:InvS sz s):s.tickF=s.tick:=by
 unfold NS.tickF NS.tick;simp only;have h1:=ticked_inv (noques_inv h);have e:NS.runF 900 (({s with ques:=[]}:NS D L).ticked)=(({s with ques:=[]}:NS D L).ticked).apply:=by
  rw [runF_eq 900 h1];unfold NS.apply;have:=mu_le _ h1;rw [run_more (({s with ques:=[]}:NS D L).ticked.mu+1) h1 (by omega) 900 (by omega)]
 rw [e]
end
section
variable {D L E M:Type} [Dg D] [Inhabited L] [Dg E] [Inhabited M]
def dlvN (ns:List (NS D L)) (m:Msg D L):List (NS D L):=ns.modify m.to.toNat fun s=>s.receive m true
def outsN (ns:List (NS D L)):List (Msg D L):=ns.flatMap fun s=>s.tick.2
def midN (ns:List (NS D L)):List (NS D L):=ns.map fun s=>s.tick.1
def rndN (ns:List (NS D L)):List (NS D L):=(outsN ns).foldl dlvN (midN ns)
def rndsN:Nat→List (NS D L)→List (NS D L)
 | 0,ns=>ns
 | k+1,ns=>rndN (rndsN k ns)
theorem rndsN_head:∀(k:Nat) (ns:List (NS D L)),rndsN (k+1) ns=rndsN k (rndN ns)
 | 0,_=>rfl
 | k+1,ns=>by
  show rndN (rndsN (k+1) ns)=rndN (rndsN k (rndN ns));rw [rndsN_head k ns]
def outsF (ns:List (NS D L)):List (Msg D L):=ns.flatMap fun s=>s.tickF.2
def rndF (ns:List (NS D L)):List (NS D L)×List (Msg D L):=
 let r:=ns.map NS.tickF
 let out:=r.flatMap (·.2)
 (out.foldl dlvN (r.map (·.1)),out)
theorem dlvN_len (ns:List (NS D L)) (m:Msg D L):(dlvN ns m).length=ns.length:=by unfold dlvN;simp
theorem foldl_dlv_len:∀(ms:List (Msg D L)) (ns:List (NS D L)),(ms.foldl dlvN ns).length=ns.length
 | [],_=>rfl
 | m :: ms,ns=>by rw [List.foldl_cons,foldl_dlv_len ms,dlvN_len]
theorem rndN_len (ns:List (NS D L)):(rndN ns).length=ns.length:=by unfold rndN;rw [foldl_dlv_len];simp [midN]
theorem rndsN_len:∀(k:Nat) (ns:List (NS D L)),(rndsN k ns).length=ns.length
 | 0,_=>rfl
 | k+1,ns=>by show (rndN (rndsN k ns)).length=_;rw [rndN_len,rndsN_len k]
theorem dlv_all {P:NS D L→Prop} {ns:List (NS D L)} {m:Msg D L} (h:∀s∈ns,P s) (hr:∀s,P s→P (s.receive m true)):∀s∈dlvN ns m,P s:=by
 intro s hs;unfold dlvN at hs;obtain ⟨i,hi,rfl⟩:=List.mem_iff_getElem.1 hs;rw [List.getElem_modify];split
 ·exact hr _ (h _ (List.getElem_mem _))
 exact h _ (List.getElem_mem _)
theorem foldl_dlv_all {P:NS D L→Prop} {Q:Msg D L→Prop} (hr:∀m,Q m→∀s,P s→P (s.receive m true)):∀(ms:List (Msg D L)) (ns:List (NS D L)),(∀m∈ms,Q m)→(∀s∈ns,P s)→∀s∈ms.foldl dlvN ns,P s
 | [],_,_,h=>h
 | m :: ms,ns,hm,h=>by
  rw [List.foldl_cons];exact foldl_dlv_all hr ms _ (fun a ha=>hm a (by simp [ha])) (dlv_all h (hr m (hm m (by simp))))
theorem rnd_all {P:NS D L→Prop} {Q:Msg D L→Prop} (ht:∀s,P s→P s.tick.1) (hr:∀m,Q m→∀s,P s→P (s.receive m true)) {ns:List (NS D L)} (hm:∀m∈outsN ns,Q m) (h:∀s∈ns,P s):∀s∈rndN ns,P s:=by
 refine foldl_dlv_all hr _ _ hm (fun s hs=>?_);obtain ⟨a,ha,rfl⟩:=List.mem_map.1 hs;exact ht a (h a ha)
theorem rndF_eq {sz:D→Prop} {ns:List (NS D L)} (h:∀s∈ns,InvS sz s):rndF ns=(rndN ns,outsN ns):=by
 have e:ns.map NS.tickF=ns.map NS.tick:=List.map_congr_left (fun s hs=>tickF_eq (h s hs));unfold rndF rndN outsN midN;rw [e];simp [List.flatMap_map,List.map_map,Function.comp_def]
theorem dlv_ren {f:D→E} {g:L→M} (r:Ren f g) (ns:List (NS D L)) (m:Msg D L):dlvN (ns.map (NS.ren f g)) (m.ren f g)=(dlvN ns m).map (NS.ren f g):=by
 unfold dlvN;apply List.ext_getElem?;intro i;show ((ns.map (NS.ren f g)).modify m.to.toNat _)[i]?=_;rw [List.getElem?_modify,List.getElem?_map,List.getElem?_map,List.getElem?_modify];rcases ns[i]? with _ | s
 ·rfl
 show some (if m.to.toNat=i then (s.ren f g).receive (m.ren f g) true else s.ren f g)=some (NS.ren f g (if m.to.toNat=i then s.receive m true else s));by_cases hi:m.to.toNat=i
 ·rw [if_pos hi,if_pos hi,receive_ren r]
 rw [if_neg hi,if_neg hi]
theorem foldl_dlv_ren {f:D→E} {g:L→M} (r:Ren f g):∀(ms:List (Msg D L)) (ns:List (NS D L)),(ms.map (Msg.ren f g)).foldl dlvN (ns.map (NS.ren f g))=(ms.foldl dlvN ns).map (NS.ren f g)
 | [],_=>rfl
 | m :: ms,ns=>by rw [List.map_cons,List.foldl_cons,List.foldl_cons,dlv_ren r,foldl_dlv_ren r ms]
theorem outs_ren {f:D→E} {g:L→M} (r:Ren f g) (ns:List (NS D L)):outsN (ns.map (NS.ren f g))=(outsN ns).map (Msg.ren f g):=by
 unfold outsN;rw [List.flatMap_map,List.map_flatMap];congr 1;funext s
 rw [tick_ren r]
theorem mid_ren {f:D→E} {g:L→M} (r:Ren f g) (ns:List (NS D L)):midN (ns.map (NS.ren f g))=(midN ns).map (NS.ren f g):=by
 unfold midN;rw [List.map_map,List.map_map];congr 1;funext s
 simp only [Function.comp];rw [tick_ren r]
theorem rnd_ren {f:D→E} {g:L→M} (r:Ren f g) (ns:List (NS D L)):rndN (ns.map (NS.ren f g))=(rndN ns).map (NS.ren f g):=by
 unfold rndN;rw [outs_ren r,mid_ren r,foldl_dlv_ren r]
theorem rnds_ren {f:D→E} {g:L→M} (r:Ren f g):∀(k:Nat) (ns:List (NS D L)),rndsN k (ns.map (NS.ren f g))=(rndsN k ns).map (NS.ren f g)
 | 0,_=>rfl
 | k+1,ns=>by show rndN (rndsN k _)=(rndN (rndsN k ns)).map _;rw [rnds_ren r k,rnd_ren r]
end
instance dgQ {z:Nat}:Dg (Fin (z+1)):=⟨inferInstance,0,fun a b=>decide (a.val<b.val)⟩
abbrev QZ (z:Nat):=Fin (z+1)
abbrev SZ (z:Nat):=NS (QZ z) (QZ z)
abbrev MZ (z:Nat):=Msg (QZ z) (QZ z)
abbrev Q5:=QZ 4
abbrev S5:=SZ 4
abbrev M5:=MZ 4
section
variable {z:Nat}
def okQ (n:Int) (m:MZ z):Bool:=
 decide (0≤m.frm) && decide (m.frm<n) && decide (0≤m.to) && decide (m.to<n) && !decide (m.frm=m.to) && decide (0≤m.height) && decide (m.height<1200) && decide (0≤m.round) && decide (m.round<100) &&
 (if m.kind=3 then decide (m.list=m.dig) && !decide (m.dig=0) && decide (-1≤m.valid) && decide (m.valid<m.round) else (decide (m.kind=4) || decide (m.kind=5) || decide (m.kind=6)) && decide (m.valid=0) && decide (m.list=0))
structure OkQ (n:Int) (m:MZ z):Prop where
 frm:0≤m.frm∧m.frm<n
 to_:0≤m.to∧m.to<n
 ne:m.frm≠m.to
 height:0≤m.height∧m.height<1200
 round:0≤m.round∧m.round<100
 kind:m.kind=3∨m.kind=4∨m.kind=5∨m.kind=6
 prop:m.kind=3→m.list=m.dig∧m.dig≠0∧-1≤m.valid∧m.valid<m.round
 vote:m.kind≠3→m.valid=0∧m.list=0
theorem okQ_ok {n:Int} {m:MZ z} (h:okQ n m=true):OkQ n m:=by
 unfold okQ at h;by_cases hk:m.kind=3
 ·rw [if_pos hk] at h;simp at h;obtain ⟨⟨⟨⟨⟨⟨⟨⟨⟨a1,a2⟩,a3⟩,a4⟩,a5⟩,a6⟩,a7⟩,a8⟩,a9⟩,⟨⟨⟨b1,b2⟩,b3⟩,b4⟩⟩:=h;exact ⟨⟨a1,a2⟩,⟨a3,a4⟩,a5,⟨a6,a7⟩,⟨a8,a9⟩,.inl hk,fun _=>⟨b1,b2,b3,b4⟩,fun q=>absurd hk q⟩
 rw [if_neg hk] at h;simp at h;obtain ⟨⟨⟨⟨⟨⟨⟨⟨⟨a1,a2⟩,a3⟩,a4⟩,a5⟩,a6⟩,a7⟩,a8⟩,a9⟩,⟨⟨b1,b2⟩,b3⟩⟩:=h;refine ⟨⟨a1,a2⟩,⟨a3,a4⟩,a5,⟨a6,a7⟩,⟨a8,a9⟩,?_,fun q=>absurd q hk,fun _=>⟨b2,b3⟩⟩;rcases b1 with (b1 | b1) | b1
 ·exact .inr (.inl b1)
 ·exact .inr (.inr (.inl b1))
 exact .inr (.inr (.inr b1))
theorem OkQ.okM {n:Int} {m:MZ z} (h:OkQ n m):OkM (fun _:QZ z=>True) m:=by
 have hr:=h.round;have hf:=h.frm;have hv:-1≤m.valid∧m.valid≤99:=by
  by_cases hk:m.kind=3
  ·have:=h.prop hk;omega
  have:=h.vote hk;omega
 exact ⟨hf.1,hr.1,by omega,hv.1,hv.2,trivial⟩
def goodRun (n:Int):Nat→List (SZ z)→Bool×List (SZ z)
 | 0,ns=>(true,ns)
 | t+1,ns=>let r:=rndF ns;if r.2.all (okQ n) then goodRun n t r.1 else (false,r.1)
theorem goodRun_ok (n:Int):∀(t:Nat) (ns:List (SZ z)),(∀s∈ns,InvS (fun _:QZ z=>True) s)→(goodRun n t ns).1=true →
  (goodRun n t ns).2=rndsN t ns∧(∀j,j<t→∀m∈outsN (rndsN j ns),OkQ n m)∧∀j,j≤t→∀s∈rndsN j ns,InvS (fun _:QZ z=>True) s
 | 0,ns,h,_=>by
  refine ⟨rfl,fun j hj=>by omega,fun j hj=>?_⟩;have:j=0:=by omega
  subst this;exact h
 | t+1,ns,h,hg=>by
  have e:=rndF_eq h;unfold goodRun at hg ⊢;rw [e] at hg ⊢;simp only at hg ⊢;by_cases ha:(outsN ns).all (okQ n)=true
  ·rw [if_pos ha] at hg ⊢;have hm:∀m∈outsN ns,OkQ n m:=fun m hm=>okQ_ok (List.all_eq_true.1 ha m hm);have h1:∀s∈rndN ns,InvS (fun _:QZ z=>True) s:=rnd_all (Q:=OkQ n) (fun s hs=>tick_inv hs) (fun m hm s hs=>receive_inv hs (fun _ _=>hm.okM)) hm h;obtain ⟨a,b,c⟩:=goodRun_ok n t (rndN ns) h1 hg;refine ⟨by rw [a,rndsN_head],fun j hj=>?_,fun j hj=>?_⟩
   ·rcases j with _ | j
    ·exact hm
    rw [rndsN_head];exact b j (by omega)
   rcases j with _ | j
   ·exact h
   rw [rndsN_head];exact c j (by omega)
  rw [if_neg ha] at hg;cases hg
end
def startQ (n:Nat) (k:Q5):List S5:=(List.range n).map fun (i:Nat)=>((newS (i:Int) (n:Int):S5).begin 0 true k k).1
def nextQ (k:Q5) (l:List S5):List S5:=l.map fun s=>(s.begin 1 true k k).1
def doneQ (h:Int) (k:Q5) (l:List S5):Bool:=l.all fun s=>(match getA h s.decs with | some v=>decide (v.dig=k) && decide (v.list=k) | none=>false) && decide (s.round=0)
def mayQ (k:Q5) (l:List S5):Bool:=l.all fun s=>(s.begin 1 true k k).2
def quickQ (n:Nat) (k k2:Q5):Bool:=
 let a:=goodRun n 8 (startQ n k)
 a.1 && doneQ 0 k a.2 && mayQ k2 a.2 && (let b:=goodRun n 8 (nextQ k2 a.2);b.1 && doneQ 1 k2 b.2)
section
variable {D L:Type} [Dg D] [Inhabited L]
structure Keep (s s':NS D L):Prop where
 height:s'.height=s.height
 id:s'.id=s.id
 n:s'.n=s.n
 own:s'.own=s.own
 acc:s'.acc=s.acc
 claims:s'.claims=s.claims
 order:s'.order=s.order
 ques:s'.ques=s.ques
 inf:s'.inf=s.inf
 ticks:s'.ticks=s.ticks
 mine:∃t,s'.mine=s.mine ++ t
 round:s.round≤s'.round
 decs:s.isDec s.height=false→∀k v,getA k s.decs=some v→getA k s'.decs=some v
 other:∀k,k≠s.height→getA k s'.decs=getA k s.decs
theorem Keep.refl (s:NS D L):Keep s s:=⟨rfl,rfl,rfl,rfl,rfl,rfl,rfl,rfl,rfl,rfl,⟨[],by simp⟩,Int.le_refl _,fun _ _ _ h=>h,fun _ _=>rfl⟩
theorem say_keep (s:NS D L) (m:Msg D L):Keep s (s.say m):=by
 obtain ⟨hb,e1,e2,e3,e4,e5⟩:=say_same s m;exact ⟨hb.height,hb.id,hb.n,hb.own,hb.acc,hb.claims,hb.order,hb.ques,hb.inf,hb.ticks,⟨_,e4⟩,by rw [e1];exact Int.le_refl _,fun _ k v h=>by rw [hb.decs];exact h,fun _ _=>by rw [hb.decs]⟩
theorem enter_keep {s t:NS D L} (h:Keep s t) (k:Int):Keep s (t.enter k):=⟨h.height,h.id,h.n,h.own,h.acc,h.claims,h.order,h.ques,h.inf,h.ticks,h.mine,h.round,h.decs,h.other⟩
theorem cast_keep (s:NS D L) (k:Int) (d:D) (st:Int):Keep s (s.cast k d st):=enter_keep (say_keep s _) st
theorem isDec_put (s:NS D L) (v:Val D L) (k:Int):getA k (putA s.height v s.decs)=if k=s.height then some v else getA k s.decs:=getA_put _
theorem rule_keep {s s':NS D L} (hr0:0≤s.round) {k:Nat} (he:s.rule k=some s'):Keep s s':=by
 have hdec:∀v:Val D L,Keep s {s with decs:=putA s.height v s.decs}:=fun v=>⟨rfl,rfl,rfl,rfl,rfl,rfl,rfl,rfl,rfl,rfl,⟨[],by simp⟩,Int.le_refl _,fun hd k u hu=>by
  rw [isDec_put];split
  ·rename_i e;subst e
   unfold NS.isDec at hd;rw [hu] at hd;simp at hd
  exact hu,fun k hk=>by rw [isDec_put,if_neg hk]⟩
 have hrd:∀q:Int,s.round≤q→Keep s {s with round:=q}:=fun q hq=>⟨rfl,rfl,rfl,rfl,rfl,rfl,rfl,rfl,rfl,rfl,⟨[],by simp⟩,hq,fun _ _ _ h=>h,fun _ _=>rfl⟩;have trans:∀{a b c:NS D L},Keep a b→Keep b c→a.decs=b.decs→Keep a c:=fun h h2 e=>⟨h2.height.trans h.height,h2.id.trans h.id,h2.n.trans h.n,h2.own.trans h.own,h2.acc.trans h.acc,h2.claims.trans h.claims,h2.order.trans h.order,h2.ques.trans h.ques,h2.inf.trans h.inf,h2.ticks.trans h.ticks,by
  obtain ⟨t,q⟩:=h.mine;obtain ⟨u,q2⟩:=h2.mine;exact ⟨t ++ u,by rw [q2,q,List.append_assoc]⟩,Int.le_trans h.round h2.round,fun hd k v hv=>h2.decs (by unfold NS.isDec at hd ⊢;rw [h.height,←e];exact hd) k v (e ▸ hv),fun k hk=>by rw [h2.other k (by rw [h.height];exact hk),e]⟩
 unfold NS.rule at he;split at he
 ·unfold NS.rDecide at he;split at he
  ·cases he;exact hdec _
  split at he
  ·cases he;exact hdec _
  cases he
 ·unfold NS.rSpread at he;obtain ⟨k,hk,hf,_⟩:=firstR_some he;simp only at hf;split at hf
  ·cases hf;exact say_keep _ _
  cases hf
 ·unfold NS.rValidate at he;obtain ⟨k,hk,hf,_⟩:=firstR_some he;rcases hc:s.chosenList 6 (s.round - k) with _ | v
  ·rw [hc] at hf;cases hf
  rw [hc] at hf;cases hf;exact ⟨rfl,rfl,rfl,rfl,rfl,rfl,rfl,rfl,rfl,rfl,⟨[],by simp⟩,Int.le_refl _,fun _ _ _ h=>h,fun _ _=>rfl⟩
 ·unfold NS.rFollow at he;obtain ⟨k,hk,hf,_⟩:=firstR_some he;split at hf
  ·cases hf;exact trans (hrd (99 - k) (by omega)) (cast_keep _ _ _ _) rfl
  cases hf
 ·unfold NS.rPropose at he;split at he
  ·cases he
  split at he
  ·cases he
  cases he;exact say_keep _ _
 ·unfold NS.rPrevote at he;split at he
  ·cases he
  split at he
  ·cases he
  split at he
  ·cases he
  cases he;exact cast_keep _ _ _ _
 ·unfold NS.rMiss at he;split at he
  ·cases he
  cases he;exact cast_keep _ _ _ _
 ·unfold NS.rKey at he;split at he
  ·cases he
  split at he
  ·cases he
  simp only at he;cases he;split
  ·exact enter_keep (say_keep _ _) 3
  exact say_keep _ _
 ·unfold NS.rWait at he;split at he
  ·cases he
  split at he
  ·cases he;exact enter_keep (Keep.refl s) 3
  split at he
  ·cases he;exact cast_keep _ _ _ _
  cases he
 ·unfold NS.rSeal at he;split at he
  ·cases he
  rename_i v hv
  split at he
  ·cases he
  cases he;exact @trans s ({s with lock:=some v}:NS D L) _ ⟨rfl,rfl,rfl,rfl,rfl,rfl,rfl,rfl,rfl,rfl,⟨[],by simp⟩,Int.le_refl _,fun _ _ _ h=>h,fun _ _=>rfl⟩ (cast_keep ({s with lock:=some v}:NS D L) 5 v.dig 4) rfl
 ·unfold NS.rLeave at he;split at he
  ·cases he
  cases he;exact cast_keep _ _ _ _
 ·unfold NS.rNext at he;split at he
  ·cases he
  cases he;exact enter_keep (hrd _ (by omega)) 1
 cases he
theorem Keep.trans {a b c:NS D L} (h:Keep a b) (h2:Keep b c) (hd2:b.isDec b.height=true→c=b):Keep a c:=by
 rcases hb:b.isDec b.height with _ | _
 ·refine ⟨h2.height.trans h.height,h2.id.trans h.id,h2.n.trans h.n,h2.own.trans h.own,h2.acc.trans h.acc,h2.claims.trans h.claims,h2.order.trans h.order,h2.ques.trans h.ques,h2.inf.trans h.inf,h2.ticks.trans h.ticks,?_,Int.le_trans h.round h2.round,fun hd k v hv=>h2.decs hb k v (h.decs hd k v hv),fun k hk=>by rw [h2.other k (by rw [h.height];exact hk),h.other k hk]⟩;obtain ⟨t,q⟩:=h.mine;obtain ⟨u,q2⟩:=h2.mine;exact ⟨t ++ u,by rw [q2,q,List.append_assoc]⟩
 rw [hd2 hb];exact h
theorem run_keep {sz:D→Prop}:∀(k:Nat) {s:NS D L},InvS sz s→Keep s (NS.runS k s)
 | 0,s,_=>Keep.refl s
 | k+1,s,h=>by
  unfold NS.runS;split
  ·exact Keep.refl s
  rcases he:s.stepS with _ | t
  ·exact Keep.refl s
  obtain ⟨j,_,hj,_⟩:=firstR_some he;exact (rule_keep h.num.r0 hj).trans (run_keep k (step_inv h he).1) (fun hd=>run_dec k hd)
structure TickK (s s':NS D L):Prop where
 height:s'.height=s.height
 id:s'.id=s.id
 n:s'.n=s.n
 own:s'.own=s.own
 acc:s'.acc=s.acc
 claims:s'.claims=s.claims
 order:s'.order=s.order
 ques:s'.ques = []
 inf:s'.inf=s.inf
 ticks:s'.ticks≤s.ticks+1
 mine:∃t,s'.mine=s.mine ++ t
 round:s.round≤s'.round
 decs:∀k v,getA k s.decs=some v→getA k s'.decs=some v
 other:∀k,k≠s.height→getA k s'.decs=getA k s.decs
theorem tick_keep {sz:D→Prop} {s:NS D L} (h:InvS sz s):TickK s s.tick.1:=by
 unfold NS.tick;simp only;split
 ·exact ⟨rfl,rfl,rfl,rfl,rfl,rfl,rfl,rfl,rfl,by show s.ticks≤_;omega,⟨[],by simp⟩,Int.le_refl _,fun _ _ h=>h,fun _ _=>rfl⟩
 rename_i hd
 have hk:=run_keep (({s with ques:=[]}:NS D L).ticked.mu+2) (ticked_inv (noques_inv h));have hd':s.isDec s.height=false:=by
  rcases q:s.isDec s.height with _ | _
  ·rfl
  exact absurd q hd
 exact ⟨hk.height,hk.id,hk.n,hk.own,hk.acc,hk.claims,hk.order,hk.ques,hk.inf,Int.le_of_eq hk.ticks,hk.mine,hk.round,hk.decs hd',hk.other⟩
theorem InvS.once {sz:D→Prop} {s:NS D L} (h:InvS sz s):∀a∈s.mine,∀b∈s.mine,a.kind=b.kind→a.round=b.round→a=b:=by
 intro a ha b hb e1 e2;have hn:=h.min.nodup;rw [h.min.made] at hn;obtain ⟨i,hi,rfl⟩:=List.mem_iff_getElem.1 ha;obtain ⟨j,hj,rfl⟩:=List.mem_iff_getElem.1 hb;have:i=j:=by
  rcases Nat.lt_trichotomy i j with q | q | q
  ·have:=List.pairwise_iff_getElem.1 hn i j (by simpa using hi) (by simpa using hj) q;simp [e1,e2] at this
  ·exact q
  have:=List.pairwise_iff_getElem.1 hn j i (by simpa using hj) (by simpa using hi) q;simp [e1,e2] at this
 subst this;rfl
end
structure QuesI (q:List (Int×(Int×Int))):Prop where
 nd:(q.map (·.1)).Nodup
 rg:∀p∈q,0≤p.1∧p.1<7∧0≤p.2.1∧p.2.1<1200∧0≤p.2.2∧p.2.2≤99
theorem QuesI.nil:QuesI []:=⟨List.nodup_nil,by simp⟩
theorem QuesI.put {l:List (Int×(Int×Int))} (h:QuesI l) {k:Int} {v:Int×Int} (hk:0≤k∧k<7) (hv:0≤v.1∧v.1<1200∧0≤v.2∧v.2≤99):QuesI (putA k v l):=
 ⟨nodup_putA h.nd,fun p hp=>by
  rcases mem_putA hp with e | e
  ·rw [e];exact ⟨hk.1,hk.2,hv.1,hv.2.1,hv.2.2.1,hv.2.2.2⟩
  exact h.rg p e⟩
theorem delA_sub {κ β:Type} [DecidableEq κ] (k:κ):∀l:List (κ×β),(delA k l).Sublist l
 | []=>.slnil
 | p :: l=>by
  unfold delA;split
  ·exact List.sublist_cons_self p l
  exact (delA_sub k l).cons_cons p
theorem QuesI.del {l:List (Int×(Int×Int))} (h:QuesI l) (k:Int):QuesI (delA k l):=
 ⟨h.nd.sublist ((delA_sub k l).map _),fun p hp=>h.rg p ((delA_sub k l).subset hp)⟩
theorem nodup_below:∀(n:Nat) {l:List Int},l.Nodup→(∀x∈l,0≤x∧x<n)→l.length≤n
 | 0,l,_,h=>by
  rcases l with _ | ⟨a,l⟩
  ·simp
  ·exact absurd (h a (by simp)) (by omega)
 | n+1,l,hn,h=>by
  have h2:=nodup_below n (l:=l.filter fun x:Int=>decide (x≠(n:Int))) (hn.sublist List.filter_sublist) (fun x hx=>by
   simp only [List.mem_filter,decide_eq_true_eq] at hx;have:=h x hx.1;have h3:=hx.2;constructor
   ·exact this.1
   have:=this.2;push_cast at this;omega)
  have h3:l.length≤(l.filter fun x:Int=>decide (x≠(n:Int))).length+1:=by
   clear h2 h;induction l with
   | nil=>simp
   | cons a l ih=>
    rw [List.nodup_cons] at hn;by_cases ha:a=n
    ·have e:(l.filter fun x:Int=>decide (x≠(n:Int)))=l:=by
      rw [List.filter_eq_self];intro b hb;have:b≠a:=fun q=>hn.1 (q ▸ hb);simp only [decide_eq_true_eq];rw [←ha];exact this
     subst ha;rw [List.filter_cons];simp only [ne_eq,not_true_eq_false,decide_false,Bool.false_eq_true,if_false,List.length_cons];simp only [ne_eq] at e;rw [e];exact Nat.le_refl _
    have:=ih hn.2;rw [List.filter_cons];simp only [ne_eq,ha,not_false_eq_true,decide_true,if_true,List.length_cons];simp only [ne_eq] at this;omega
  omega
theorem QuesI.len {l:List (Int×(Int×Int))} (h:QuesI l):l.length≤7:=by
 have:=nodup_below 7 h.nd (fun x hx=>by
  obtain ⟨p,hp,rfl⟩:=List.mem_map.1 hx;have:=h.rg p hp;exact ⟨this.1,this.2.1⟩)
 simpa using this
theorem QuesI.get {l:List (Int×(Int×Int))} (h:QuesI l) {k:Int} {v:Int×Int} (e:getA k l=some v):0≤k∧k<7∧0≤v.1∧v.1<1200∧0≤v.2∧v.2≤99:=h.rg (k,v) (getA_mem e)
section
variable {D L:Type} [Dg D] [Inhabited L]
theorem ask_ques {s:NS D L} (h:QuesI s.ques) {m:Msg D L} (hf:0≤m.frm∧m.frm<7) (hh:0≤m.height∧m.height<1200) (hr:0≤m.round∧m.round≤99):QuesI (s.ask m).ques:=by
 have hp:QuesI (putA m.frm (m.height,m.round) s.ques):=h.put hf ⟨hh.1,hh.2,hr.1,hr.2⟩;unfold NS.ask;split
 ·show QuesI (match getA m.frm s.ques with | some q=>if q.1=m.height then delA m.frm s.ques else s.ques | none=>s.ques);split
  ·split
   ·exact h.del _
   exact h
  exact h
 split
 ·exact h
 split
 ·split
  ·exact hp
  exact h
 exact hp
theorem receive_ques {s:NS D L} (h:QuesI s.ques) {m:Msg D L} {ok:Bool} (hn:s.n≤7) (hf:ok=true→0≤m.frm) (hh:ok=true→0≤m.height∧m.height<1200) (hr:ok=true→0≤m.round∧m.round≤99):QuesI (s.receive m ok).ques:=by
 unfold NS.receive;split
 ·exact h
 rename_i q
 simp only [not_or,Bool.not_eq_false,Decidable.not_not,Int.not_le,Int.not_lt] at q;obtain ⟨q1,q2,q3,q4⟩:=q;split
 ·exact h
 split
 ·exact ask_ques h ⟨hf q1,by omega⟩ (hh q1) (hr q1)
 split
 ·exact h
 split
 ·rw [(putVote_same s m).1.ques];exact h
 split
 ·exact h
 split
 ·exact h
 exact h
theorem tick_ques {sz:D→Prop} {s:NS D L} (hi:InvS sz s):QuesI s.tick.1.ques:=by
 have h:=(tick_keep hi).ques;rw [h];exact QuesI.nil
theorem new_ques (id n:Int):QuesI (newS id n:NS D L).ques:=QuesI.nil
theorem begin_ques {s:NS D L} (h:QuesI s.ques) (k:Int) (ok:Bool) (d:D) (l:L):QuesI (s.begin k ok d l).1.ques:=by
 unfold NS.begin;split
 ·exact h
 split
 ·exact h
 split
 ·exact h
 exact h
theorem accept_ques {s:NS D L} (h:QuesI s.ques) (d:D):QuesI (s.accept d).ques:=h
theorem learn_ques {s:NS D L} (h:QuesI s.ques) (k:Int) (ok:Bool) (d:D) (l:L):QuesI (s.learn k ok d l).1.ques:=by
 unfold NS.learn;split
 ·exact h
 split
 ·split
  ·exact h
  exact h
 exact h
end
end Go.Proofs.YtifcdjmcoibblaaGreatDoor
